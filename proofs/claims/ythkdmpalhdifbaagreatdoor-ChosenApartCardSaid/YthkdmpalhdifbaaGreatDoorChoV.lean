/- Package skaldlaw25: votes by numbers. -/
import Derived.Test.YthkdmpalhdifbaaGreatDoorChoX
import Derived.Test.YthkdmpalhdifbaaGreatDoorChoM
set_option linter.unusedVariables false
set_option linter.unusedSimpArgs false
namespace Go.Proofs.YthkdmpalhdifbaaGreatDoor
open Go.RowKit Go.Maps Go.Shelf Go.ChangeShapes Go.WideShapes Go.Deep

/-- The value v is the slice of the numbers zs. -/
def NumsIn (w : World) (v : Value) (zs : List Nat) : Prop :=
  ∃ A cap, v = .slice A zs.length cap ∧ zs.length ≤ cap ∧ cap ≤ maxLen ∧ (∀ z ∈ zs, z < 65536) ∧
    (0 < zs.length → ∃ b off, A = some ⟨b, off, none⟩ ∧ b < w.heap.size ∧ ∀ (i z : Nat), zs[i]? = some z → w.cell? ⟨b, off + i, none⟩ = some (.int .u16 (z : Int)))
theorem u16_wf {x : Int} (h : (Lit.int .u16 x).wf = true) : 0 ≤ x ∧ x ≤ 65535 := by
  simp [Lit.wf, IntKind.min, IntKind.max, IntKind.signed, IntKind.bits] at h
  omega
theorem NumsIn.of_trod {H : Type} {enc : TypeId × Value → H} {w : World} {base : Nat} {spare : Nat → Bool} {held : Bool} {a0 : Option Addr} {len0 cap0 : Nat} {d : DataW H} {p : List MemPlace}
    (h : DataW.Trod enc Tryz.prog w base spare held 61 (.slice a0 len0 cap0) d p) : ∃ zs, NumsIn w (.slice a0 len0 cap0) zs := by
  obtain ⟨fuel, hf⟩ := h
  rcases open_ints Tryz.underlying61 Tryz.underlying71 (by kernel_rfl) hf with ⟨hcs, _⟩ | ⟨a, l, c, zs, hcs, _, hl, hm, hz, _, hcell, hwz⟩
  · simp [Value.cells] at hcs
    obtain ⟨rfl, rfl, rfl⟩ := hcs
    exact ⟨[], none, 0, rfl, Nat.le_refl _, Nat.zero_le _, fun s hs => by simp at hs, fun h => absurd h (by simp)⟩
  · simp [Value.cells] at hcs
    obtain ⟨rfl, rfl, rfl⟩ := hcs
    have hzl : len0 ≤ zs.length := by rw [hz]; split <;> omega
    have hlen : ((zs.take len0).map Int.toNat).length = len0 := by simp; omega
    refine ⟨(zs.take len0).map Int.toNat, some a, cap0, by rw [hlen], by rw [hlen]; exact hl, hm, fun z hz' => ?_, fun h0 => ?_⟩
    · obtain ⟨y, hy, rfl⟩ := List.mem_map.1 hz'
      have := u16_wf (hwz y (List.mem_of_mem_take hy))
      omega
    rw [hlen] at h0
    obtain ⟨b, off, spot⟩ := a
    have h1 := hcell 0 (by omega)
    have hspot : spot = none := by simpa [Addr.add] using World.cell?_spot h1
    subst hspot
    obtain ⟨o, ho, _⟩ := cells_of_cell h1
    refine ⟨b, off, rfl, ?_, fun i z hx => ?_⟩
    · simpa [block_of_add] using (Array.getElem?_eq_some_iff.1 ho).1
    · have hi' : i < len0 := by have := (List.getElem?_eq_some_iff.1 hx).1; omega
      have h2 := hcell i (by omega)
      rw [add_flat] at h2
      rw [List.getElem?_map, List.getElem?_take, if_pos hi'] at hx
      obtain ⟨y, hy, rfl⟩ := Option.map_eq_some_iff.1 hx
      have h3 := u16_wf (hwz y (List.mem_of_getElem? hy))
      rw [h2, List.getD_eq_getElem?_getD, hy]
      simp only [Option.getD_some]
      rw [Int.toNat_of_nonneg h3.1]

def abc (k : Nat) : ByteArray := ⟨#[UInt8.ofNat (97 + k)]⟩
/-- The votes that are drawn. -/
structure VOk (n : Nat) (L : List Vt) : Prop where
  poss : Poss n L
  len : L.length ≤ 40
  few : ∀ x ∈ L, (1 ≤ x.r ∧ x.r ≤ 5) ∧ (0 ≤ x.sl ∧ x.sl ≤ 2) ∧ ∃ k, k < 3 ∧ x.v = abc k
theorem VOk.nil (n : Nat) : VOk n [] := ⟨Poss.nil n, by simp, by simp⟩
theorem alone_mk {n nd r d sl k : Nat} (hn : 1 ≤ n ∧ n ≤ 7) (h1 : nd < n) (h2 : 1 ≤ r ∧ r ≤ 5) (h3 : d < n) (h4 : sl < 3) : aloneB ⟨nd, r, d, sl, abc k⟩ n = true := by
  unfold aloneB chkE
  rw [if_neg (show ¬ ((n : Int) < 1 ∨ 7 < (n : Int)) by omega), if_neg (show ¬ ((r : Int) = 0 ∧ (d : Int) = 0) by omega), if_neg (show ¬ ((r : Int) < 1 ∨ 1073741824 < (r : Int) ∨ (d : Int) < 0 ∨ (n : Int) ≤ (d : Int)) by omega)]
  have hs : (abc k).size = 1 := rfl
  have hr : ((r : Int) == 0) = false := by simp; omega
  simp only [hs, hr, Bool.and_eq_true, decide_eq_true_eq]
  refine ⟨by omega, by omega, by simp, by decide, ⟨by omega, by omega⟩, by decide⟩
/-- What the inner loop keeps. -/
def InOk (L : List Vt) (nd r d sl : Nat) (j : Nat) (val : ByteArray) (ft : Bool) : Prop :=
  (∃ k, k < 3 ∧ val = abc k) ∧ ∀ y ∈ L.take j, y.sl = (sl : Int) → ((y.r, y.d) = ((r : Int), (d : Int)) → y.v = val) ∧ (ft = true → y.nd = (nd : Int) → ¬ blt ((r : Int), (d : Int)) (vbl y))
theorem InOk.zero {L : List Vt} {nd r d sl k : Nat} (hk : k < 3) : InOk L nd r d sl 0 (abc k) true := ⟨⟨k, hk, rfl⟩, by simp⟩
theorem mem_take_succ {L : List Vt} {j : Nat} {x y : Vt} (h : L[j]? = some x) : y ∈ L.take (j + 1) ↔ y ∈ L.take j ∨ y = x := by
  rw [List.take_add_one, h]
  simp
/-- A vote at another slot. -/
theorem InOk.skip {L : List Vt} {nd r d sl j : Nat} {val : ByteArray} {ft : Bool} {x : Vt} (h : InOk L nd r d sl j val ft) (hx : L[j]? = some x) (hs : x.sl ≠ (sl : Int)) : InOk L nd r d sl (j + 1) val ft :=
  ⟨h.1, fun y hy hys => by
    rcases (mem_take_succ hx).1 hy with hy | rfl
    · exact h.2 y hy hys
    · exact absurd hys hs⟩
def fitB (x : Vt) (nd r d : Nat) : Bool := !(x.nd == (nd : Int)) || ((x.r == (r : Int) && x.d == (d : Int)) || (decide (x.r < (r : Int)) || (x.r == (r : Int) && decide (x.d < (d : Int)))))
theorem fitB_imp {x : Vt} {nd r d : Nat} (h : fitB x nd r d = true) (hn : x.nd = (nd : Int)) : ¬ blt ((r : Int), (d : Int)) (vbl x) := by
  unfold fitB at h
  rw [blt_def]
  simp only [Bool.or_eq_true, Bool.and_eq_true, Bool.not_eq_true', beq_eq_false_iff_ne, beq_iff_eq, decide_eq_true_eq] at h
  simp only
  omega
theorem InOk.same {n : Nat} {L : List Vt} {nd r d sl j : Nat} {val : ByteArray} {ft : Bool} {x : Vt} (hV : VOk n L) (h : InOk L nd r d sl j val ft) (hx : L[j]? = some x) (hs : x.sl = (sl : Int)) (hb : (x.r == (r : Int) && x.d == (d : Int)) = true) :
    InOk L nd r d sl (j + 1) x.v (ft && fitB x nd r d) := by
  have hxm := List.mem_of_getElem? hx
  simp only [Bool.and_eq_true, beq_iff_eq] at hb
  refine ⟨(hV.few x hxm).2.2, fun y hy hys => ?_⟩
  rcases (mem_take_succ hx).1 hy with hy | rfl
  · refine ⟨fun e => ?_, fun hf => (h.2 y hy hys).2 (Bool.and_eq_true _ _ ▸ hf).1⟩
    obtain ⟨i, hi, hyi⟩ := List.mem_take_iff_getElem.1 hy
    have hil : i < L.length := by omega
    have hjl := (List.getElem?_eq_some_iff.1 hx).1
    have hxj := (List.getElem?_eq_some_iff.1 hx).2
    have := List.pairwise_iff_getElem.1 hV.poss.pw i j hil hjl (by omega)
    rw [hyi, hxj] at this
    refine (this (hys.trans hs.symm)).1 ?_
    simp only [Prod.mk.injEq] at e ⊢
    omega
  · exact ⟨fun _ => rfl, fun hf hnd => fitB_imp (Bool.and_eq_true _ _ ▸ hf).2 hnd⟩
theorem InOk.other {L : List Vt} {nd r d sl j : Nat} {val : ByteArray} {ft : Bool} {x : Vt} (h : InOk L nd r d sl j val ft) (hx : L[j]? = some x) (hb : (x.r == (r : Int) && x.d == (d : Int)) = false) :
    InOk L nd r d sl (j + 1) val (ft && fitB x nd r d) := by
  refine ⟨h.1, fun y hy hys => ?_⟩
  rcases (mem_take_succ hx).1 hy with hy | rfl
  · exact ⟨(h.2 y hy hys).1, fun hf => (h.2 y hy hys).2 (Bool.and_eq_true _ _ ▸ hf).1⟩
  · refine ⟨fun e => ?_, fun hf hnd => fitB_imp (Bool.and_eq_true _ _ ▸ hf).2 hnd⟩
    simp only [Prod.mk.injEq] at e
    rw [e.1, e.2] at hb
    simp at hb
theorem VOk.snoc {n : Nat} {L : List Vt} {nd r d sl : Nat} {val : ByteArray} (hn : 1 ≤ n ∧ n ≤ 7) (h : VOk n L) (hl : L.length < 40) (h1 : nd < n) (h2 : 1 ≤ r ∧ r ≤ 5) (h3 : d < n) (h4 : sl < 3) (hi : InOk L nd r d sl L.length val true) :
    VOk n (L ++ [⟨nd, r, d, sl, val⟩]) := by
  obtain ⟨⟨k, hk, rfl⟩, hi⟩ := hi
  rw [List.take_length] at hi
  refine ⟨h.poss.snoc ⟨alone_mk hn h1 h2 h3 h4, fun y hy hys => ⟨fun e => (hi y hy hys).1 e, fun e => (hi y hy hys).2 rfl e⟩⟩, by simp; omega, fun x hx => ?_⟩
  rcases List.mem_append.1 hx with hx | hx
  · exact h.few x hx
  · rw [List.mem_singleton] at hx
    subst hx
    exact ⟨by simp only; omega, by simp only; omega, k, hk, rfl⟩
theorem convA (k : Nat) (W : World) (b : Nat) (hk : k < 3) (hc : W.cell? ⟨b, 0, none⟩ = some (.int .u8 (97 + (k : Int)))) : (convert 68 9 (.slice (some ⟨b, 0, none⟩) 1 1)).run Tryz.prog W = .ok (.string (abc k)) W := by
  have e : strOfNums [97 + (k : Int)] = abc k := by
    have : ∀ k : Fin 3, strOfNums [97 + ((k.val : Nat) : Int)] = abc k.val := by decide +kernel
    exact this ⟨k, hk⟩
  rw [← e]
  refine run_convert_bytes_arg _ _ _ Tryz.underlying68 Tryz.underlying5 b 0 1 1 [97 + (k : Int)] (by simp) (fun i hi => ?_) _ Tryz.underlying9
  have : i = 0 := by omega
  subst this
  simpa using hc
end Go.Proofs.YthkdmpalhdifbaaGreatDoor
