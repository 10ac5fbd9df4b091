/- StableLong: plain. -/
import Derived.Test.YtlfikhblmbidmaaGreatDoorRefuW
set_option linter.unusedVariables false
set_option linter.unusedSimpArgs false
namespace Go.Proofs.YtlfikhblmbidmaaGreatDoor
open Go.RowKit Go.Maps

def longA (v : ByteArray) : ASt := ⟨7, 1073741824, 6, 0, [(1, (1073741824, 6, v))]⟩
def longL (v : ByteArray) : LogSt := ⟨0, 1, 1, [(0, v)]⟩
theorem long_put (v : ByteArray) (h : v.size ≤ 65536) : lputE newLog 0 v = 0 ∧ lputS newLog 0 v = longL v := by
  have he : lputE newLog 0 v = 0 := lputE_zero.2 ⟨by decide, by decide, h, by decide, fun h => by cases h⟩
  refine ⟨he, ?_⟩
  unfold lputS
  rw [if_pos he]
  rfl
theorem long_acc (v : ByteArray) (h : v.size ≤ 65536) : acE (newS 7) 1073741824 6 1 v = 0 ∧ acS (newS 7) 1073741824 6 1 v = longA v := by
  have he : acE (newS 7) 1073741824 6 1 v = 0 := accE_zero.2 ⟨by rfl, by decide, by decide, h, by unfold leBal; decide, by decide⟩
  refine ⟨he, ?_⟩
  unfold acS
  rw [if_pos he]
  rfl
theorem long_len (v : ByteArray) (h : v.data.toList.length = 40000) : 65536 < (snapB ⟨longA v, longL v⟩).length ∧ (snapB ⟨longA v, longL v⟩).length ≤ 80000000 := by
  have e : (snapB ⟨longA v, longL v⟩) = ((uintsB [1073741824, 6, 0, 1] ++ (uintsB [1, 1073741824, 6] ++ textB v.data.toList)) ++ uintsB [0, 1]) ++ (uintsB [0] ++ textB v.data.toList) := by
    simp [snapB, headA, headL, entB, valuB, longA, longL]
  have h1 := uintsB_len [1073741824, 6, 0, 1] (by decide)
  have h2 := uintsB_len [1, 1073741824, 6] (by decide)
  have h3 := uintsB_len [0, 1] (by decide)
  have h4 := uintsB_len [0] (by decide)
  have h5 := uintB_len10 (show 40000 < 18446744073709551616 by decide)
  have ht : (textB v.data.toList).length = (uintB 40000).length + 40000 := by unfold textB; rw [List.length_append, h]
  rw [e]
  simp only [List.length_append, ht, List.length_cons, List.length_nil] at *
  omega
/-- Recover, and where the node's blocks lie. -/
theorem recover_lo {w0 X : World} {p q : Nat} {v sv : Value} {b : List UInt8} (n : Int) (hn : okN n) (h : DkB w0 p q v sv (sD b) X) (hb : b.length ≤ 16777216) (hF : FoursAt X) {l : List (List UInt8)} (hl : (allF b).1 = l) {t : NSt} (hr : recR (newN n) l = some t) :
    Calls Tryz.prog 15 #[.int .i64 n, .pointer (some ⟨p, 0, none⟩)] X fun e Y => ∃ a m c k, e = .returned (.tuple #[.pointer (some ⟨a, 0, none⟩), .pointer (some ⟨c, 0, none⟩), .int .i64 0]) ∧ NS Y a m c k t ∧ (∀ i, nF a m c k i → X.heap.size ≤ i) ∧ Below X.heap.size X Y := by
  have hr2 := recover_any n hn h.at_ (sD_good hb) hF rfl
  rw [show (allF (sD b).b).1 = l from hl, hr] at hr2
  refine hr2.mono ?_
  rintro e Y ⟨hb, a, m, c, k, he, hns, hlo⟩
  exact ⟨a, m, c, k, he, hns, hlo, hb⟩
/-- A disk survives what is done to a node. -/
theorem dF_node {X : World} {p q a m c k : Nat} {v sv : Value} {s : DSt} {t : NSt} (h : DiskAt X p q v sv s) (hn : NS X a m c k t) {i : Nat} (hi : dF p q v sv i) : ¬ nF a m c k i := fun e => by
  obtain ⟨cs, z, T, hc, ht⟩ := dF_kind h hi
  rcases e with rfl | rfl | rfl | rfl
  · have := (show X.heap[i]? = _ from hn.a.at_.blk).symm.trans hc
    simp only [Option.some.injEq, Obj.cells.injEq] at this
    obtain ⟨_, rfl, _⟩ := this
    rcases ht with e | e | e <;> exact absurd e (by decide)
  · obtain ⟨es, d, hm⟩ := hn.a.at_.map.block
    have := hm.symm.trans hc
    simp at this
  · have := (show X.heap[i]? = _ from hn.l.at_.blk).symm.trans hc
    simp only [Option.some.injEq, Obj.cells.injEq] at this
    obtain ⟨_, rfl, _⟩ := this
    rcases ht with e | e | e <;> exact absurd e (by decide)
  · obtain ⟨es, d, hm⟩ := hn.l.at_.map.block
    have := hm.symm.trans hc
    simp at this
theorem DkB.node {w0 X Y : World} {p q a m c k : Nat} {v sv : Value} {s : DSt} {t : NSt} (h : DkB w0 p q v sv s X) (hn : NS X a m c k t) (f : Fr (nF a m c k) X Y) (hlo : ∀ i, nF a m c k i → w0.heap.size ≤ i) : DkB w0 p q v sv s Y :=
  ⟨h.at_.fr f (fun i hi => dF_node h.at_ hn hi), h.lo, h.bel.trans (f.below h.bel.size hlo)⟩
/-- A record written: the node stays. -/
theorem write_node {w0 X : World} {p q a m c k : Nat} {v sv : Value} {b : List UInt8} {t : NSt} (u : Value) (bs : List UInt8) (h : DkB w0 p q v sv (sD b) X) (hn : NS X a m c k t) (hF : FoursAt X) (hu : BsIn X u bs) (hl : bs.length ≤ 65536) (hf : b.length + 8 + bs.length ≤ 16777216) :
    Calls Tryz.prog 16 #[.pointer (some ⟨p, 0, none⟩), u] X fun e Y => e = .returned (.int .i64 0) ∧ ∃ v', DkB w0 p q v' sv (sD (b ++ frameB bs)) Y ∧ NS Y a m c k t := by
  refine (write_yes u bs h.at_ (sD_good (by omega)) hF hu hl hf).mono ?_
  rintro e Y ⟨rfl, v', hs⟩
  exact ⟨rfl, v', h.step hs, hs.ns_ h.at_ hn⟩
theorem write_long {w0 X : World} {p q : Nat} {v sv : Value} {s : DSt} (u : Value) (bs : List UInt8) (h : DkB w0 p q v sv s X) (hu : BsIn X u bs) (hl : 65536 < bs.length) :
    Calls Tryz.prog 16 #[.pointer (some ⟨p, 0, none⟩), u] X fun e Y => e = .returned (.int .i64 11) ∧ Below X.heap.size X Y :=
  write_err u 11 X _ (by decide) ((dapp_long u bs h.at_ hu hl).mono (by rintro e w' ⟨rfl, rfl⟩; exact ⟨rfl, Below.refl _ _⟩))
theorem made_bs (X : World) (n : Nat) (hn : n ≤ 1000000) (arr : Array Value) (ha : madeCells #[.int .u8 0] n = arr) : BsIn (X.alloc (.cells arr 5)) (.slice (some ⟨X.heap.size, 0, none⟩) n n) (List.replicate n 0) := by
  subst ha
  refine ⟨_, n, by rw [List.length_replicate], by rw [List.length_replicate]; exact Nat.le_refl _, by unfold maxLen; omega, fun _ => ⟨X.heap.size, 0, rfl, by simp, fun i z hz => ?_⟩⟩
  rw [List.getElem?_replicate] at hz
  split at hz
  · rename_i hi
    cases hz
    rw [Nat.zero_add]
    refine Blk.cell (Blk.new X 5 (madeCells #[.int .u8 0] n)) ?_
    simp [madeCells, hi, Nat.mod_one]
  · cases hz
end Go.Proofs.YtlfikhblmbidmaaGreatDoor
