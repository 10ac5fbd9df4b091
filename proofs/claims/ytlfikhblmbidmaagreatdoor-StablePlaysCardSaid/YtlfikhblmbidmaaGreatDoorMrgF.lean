/- Laid together by gen/merge.py: SrowE RowsE AccA AccB AccC AccD AccE. -/
import Derived.Test.YtlfikhblmbidmaaGreatDoorMrgA
import Derived.Laws.AppendOwnNone
import Derived.Laws.OwnMore
import Derived.RangeFuncBox
import Derived.Test.YtlfikhblmbidmaaGreatDoorShelf
import Derived.RangeFuncNested
import Derived.RangeFuncBound
import Derived.RangeFuncCalls
import Derived.RangeFuncLeaves
import Derived.Shelf.Abstract
import Derived.Shelf.RegionOpen
import Derived.OwnWalkIn
import Derived.TacticsInMore
import Derived.LoopNIn
import Derived.LoopIn
import Derived.Maps.AppendAt
import Derived.Sort.OwnSortedInts
import Derived.Deep.DeepMust
set_option linter.all false
namespace Go.Proofs.YtlfikhblmbidmaaGreatDoor
open Go.RowKit
theorem block_of_add (a : Addr) (n : Nat) : (a.add n).block = a.block := by unfold Addr.add; split <;> rfl
theorem add_of_add (a : Addr) (i j : Nat) : (a.add i).add j = a.add (i + j) := by
 unfold Addr.add
 by_cases hi : i = 0 <;> by_cases hj : j = 0 <;> simp [hi, hj, Nat.add_assoc]
theorem add_zero_spot (g i : Nat) : (⟨g, 0, none⟩ : Addr).add i = ⟨g, i, none⟩ := by
 unfold Addr.add
 by_cases h : i = 0 <;> simp [h]
def Reads (w : World) (size : Nat) (A : Option Addr) (n : Nat) (xs : List Value) : Prop :=
 xs.length = n * size ∧ (0 < n → ∃ ad, A = some ad ∧ ∀ j u, xs[j]? = some u → w.cell? (ad.add j) = some u)
namespace Reads
variable {w w' : World} {size n : Nat} {A : Option Addr} {xs : List Value}
theorem keep (h : Reads w size A n xs) (hk : ∀ ad, A = some ad → w'.heap[ad.block]? = w.heap[ad.block]?) : Reads w' size A n xs :=
 ⟨h.1, fun hn => by
  obtain ⟨ad, e, hc⟩ := h.2 hn
  exact ⟨ad, e, fun j u hu => (World.cell?_of_block (by rw [block_of_add]; exact hk ad e)).trans (hc j u hu)⟩⟩
theorem cut (h : Reads w size A n xs) {k cap : Nat} (hk : k ≤ n) (hc : n ≤ cap) :
  Reads w size (if cap = k then A else A.map (·.add (k * size))) (n - k) (xs.drop (k * size)) := by
 refine ⟨by rw [List.length_drop, h.1, Nat.sub_mul], fun hn => ?_⟩
 obtain ⟨ad, rfl, hcell⟩ := h.2 (by omega)
 rw [if_neg (by omega)]
 refine ⟨ad.add (k * size), rfl, fun j u hu => ?_⟩
 rw [add_of_add]
 exact hcell _ u (by rw [← hu, List.getElem?_drop])
theorem take (h : Reads w size A n xs) {k : Nat} (hk : k ≤ n) : Reads w size A k (xs.take (k * size)) := by
 refine ⟨?_, fun hn => ?_⟩
 ·rw [List.length_take, h.1]; exact Nat.min_eq_left (Nat.mul_le_mul_right _ hk)
 ·obtain ⟨ad, e, hc⟩ := h.2 (by omega)
  exact ⟨ad, e, fun j u hu => hc j u (by rw [List.getElem?_take] at hu; split at hu <;> simp_all)⟩
end Reads
section
variable {w w' : World} {base base' size n : Nat} {e : TypeId} {v : Value} {xs : List Value}
theorem row_lower (h : w.ownsRow base e size v n xs) (hb : base' ≤ base) : w.ownsRow base' e size v n xs :=
 ⟨h.1, h.2.imp id fun ⟨g, cap, cur, h1, h2, h3⟩ => ⟨g, cap, cur, h1, Nat.le_trans hb h2, h3⟩⟩
theorem row_keep (h : w.ownsRow base e size v n xs) (hk : ∀ g, v.ownBlock = some g → w'.heap[g]? = w.heap[g]?) : w'.ownsRow base e size v n xs :=
 ⟨h.1, h.2.imp id fun ⟨g, cap, cur, h1, h2, h3, h4⟩ => ⟨g, cap, cur, h1, h2, (hk g (by rw [h1]; rfl)).trans h3, h4⟩⟩
theorem row_fr {S : Nat → Prop} (h : w.ownsRow base e size v n xs) (k : Fr S w w') (hS : ∀ g, v.ownBlock = some g → ¬ S g) : w'.ownsRow base e size v n xs :=
 row_keep h fun g hg => k.block g (h.lt g hg).2 (hS g hg)
theorem row_view (h : w.ownsRow base e size v n xs) : ∃ (A : Option Addr) (cap : Nat), v = .slice A n cap ∧ n ≤ cap ∧ (A = none → cap = 0) ∧ cap ≤ maxLen ∧ Reads w size A n xs ∧
  (0 < n → ∃ g, A = some ⟨g, 0, none⟩ ∧ base ≤ g ∧ g < w.heap.size ∧ ∀ j u, xs[j]? = some u → w.cell? ⟨g, j, none⟩ = some u) := by
 rcases h.2 with ⟨rfl, rfl⟩ | ⟨g, cap, cur, rfl, hb, hg, hle, hm, _⟩
 ·exact ⟨none, 0, rfl, Nat.le_refl _, fun _ => rfl, Nat.zero_le _, ⟨h.1, fun h => absurd h (by omega)⟩, fun h => absurd h (by omega)⟩
 ·have hc := World.ownsRow.cells h (g := g) rfl
  exact ⟨_, cap, rfl, hle, fun e => (by cases e), hm, ⟨h.1, fun hn => ⟨_, rfl, hc⟩⟩, fun hn => ⟨g, rfl, hb, (Array.getElem?_eq_some_iff.1 hg).1, fun j u hu => by rw [← add_zero_spot]; exact hc j u hu⟩⟩
theorem row_ne_blk {b : Nat} {t : TypeId} {cs : Array Value} (h : w.ownsRow base e size v n xs) (hb : Blk w b t cs) (ht : t ≠ e) : ∀ g, v.ownBlock = some g → g ≠ b := by
 intro g hg hgb
 subst hgb
 rcases h.2 with ⟨rfl, _⟩ | ⟨g', cap, cur, rfl, _, hg', _⟩
 ·simp [Value.ownBlock] at hg
 ·obtain rfl : g' = g := by simpa [Value.ownBlock] using hg
  have := hg'.symm.trans hb
  simp at this
  exact ht this.2.symm
end
theorem wpList_app {P : Program} {w : World} {ops : Array Oper} {rest : List Oper} {o : Oper} {a : Act} {Q : Exit → Act → World → Prop} (hgd : o.guard = none) (s x : Operand) (t : TypeId)
  (ho : o.op = .call { callee := .builtin .append, args := #[s, x], argTypes := #[t, t] })
  (base : Nat) (e : TypeId) (i : TypeInfo) (z : Value) (size bytes : Nat) (ht : P.underlying t = some (.slice e)) (hi : P.info? e = some i) (hz : i.zero = some z)
  (hsize : i.size = size) (hby : i.bytes = bytes) (hzs : z.cells.size = size) (hsz : 0 < size)
  (v : Value) (n : Nat) (xs : List Value) (hs : a.eval s = v) (hown : w.ownsRow base e size v n xs)
  (A : Option Addr) (m c : Nat) (ys : List Value) (hx : a.eval x = .slice A m c) (hA : A = none → c = 0) (hmc : m ≤ c) (hr : Reads w size A m ys) (h1 : ∀ u ∈ ys, u.oneCell')
  (h63 : n + m ≤ maxLen) (hbytes : (n + m) * bytes ≤ 140737488355328) (hbase : base ≤ w.heap.size)
  (h : ∀ v' w', w'.ownsRow base e size v' (n + m) (xs ++ ys) → w.grownBy w' v.ownBlock → (v' = .slice none 0 0 ↔ v = .slice none 0 0 ∧ m = 0) → wpList P ops Q rest (a.put o.dst v') w') :
  wpList P ops Q (o :: rest) a w := by
 cases A with
 | none =>
  obtain rfl : c = 0 := hA rfl
  obtain rfl : m = 0 := by omega
  have hy : ys = [] := List.length_eq_zero_iff.1 (by rw [hr.1]; simp)
  subst hy
  refine wpList_append_own_none hgd s x t ho base e i size ht hi v n xs hs hown hx (h v w ?_ ⟨rfl, rfl, rfl, Nat.le_refl _, fun _ _ _ => rfl⟩ ⟨fun e => ⟨e, rfl⟩, fun e => e.1⟩)
  simpa using hown
 | some ad =>
  refine wpList_append_own w hgd s x t ho base e i z size bytes ht hi hz hsize hby hzs hsz v n xs hs hown ad m c ys hx hr.1 (fun j u hu => ?_) h1 h63 hbytes hbase h
  have hm : 0 < m := by
   have := (List.getElem?_eq_some_iff.1 hu).1
   rw [hr.1] at this
   exact Nat.pos_of_ne_zero (fun e => by subst e; simp at this)
  obtain ⟨ad', e, hc⟩ := hr.2 hm
  cases e
  exact hc j u hu
end Go.Proofs.YtlfikhblmbidmaaGreatDoor
namespace Go.Proofs.YtlfikhblmbidmaaGreatDoor
open Go.RowKit Go.Maps Go.Sort Go.Shelf
theorem info_int : (Tryz.prog.info? 3).map (fun i => (i.zero, i.size, i.bytes)) = some (some (.int .i64 0), 1, 8) := by kernel_rfl
def IntRow (w : World) (lo : Nat) (v : Value) (xs : List Int) : Prop := w.ownsRow lo 3 1 v xs.length (xs.map (Value.int .i64))
namespace IntRow
variable {w w' : World} {lo lo' : Nat} {v : Value} {xs : List Int}
theorem nil (w : World) (lo : Nat) : IntRow w lo (.slice none 0 0) [] := World.ownsRow_nil _ _ _ _
theorem lower (h : IntRow w lo v xs) (hb : lo' ≤ lo) : IntRow w lo' v xs :=
 ⟨h.1, h.2.imp id fun ⟨g, cap, cur, h1, h2, h3⟩ => ⟨g, cap, cur, h1, Nat.le_trans hb h2, h3⟩⟩
theorem fr {S : Nat → Prop} (h : IntRow w lo v xs) (k : Fr S w w') (hS : ∀ i, S i → i < lo) : IntRow w' lo v xs :=
 ⟨h.1, h.2.imp id fun ⟨g, cap, cur, h1, h2, h3, h4⟩ => ⟨g, cap, cur, h1, h2, (k.block g (Array.getElem?_eq_some_iff.1 h3).1 (fun e => by have := hS g e; omega)).trans h3, h4⟩⟩
theorem view (h : IntRow w lo v xs) : ∃ (A : Option Addr) (cap : Nat), v = .slice A xs.length cap ∧ xs.length ≤ cap ∧
  (0 < xs.length → ∃ g, A = some ⟨g, 0, none⟩ ∧ lo ≤ g ∧ g < w.heap.size ∧ ∀ i x, xs[i]? = some x → w.cell? ⟨g, i, none⟩ = some (.int .i64 x)) := by
 rcases h.2 with ⟨rfl, hn⟩ | ⟨g, cap, cur, rfl, hb, hg, hle, _⟩
 ·exact ⟨none, 0, by rw [hn], by omega, fun h => by omega⟩
 ·refine ⟨_, cap, rfl, hle, fun hpos => ⟨g, rfl, hb, (Array.getElem?_eq_some_iff.1 hg).1, fun i x hx => ?_⟩⟩
  have hi : i < xs.length := (List.getElem?_eq_some_iff.1 hx).1
  rw [World.ownsRow.cellAt h i (by omega), List.getElem?_map, hx]
  rfl
end IntRow
def keys {β : Type} (L : List (Int × β)) : List Int := L.map (·.1)
theorem keys_sorted {β : Type} {L : List (Int × β)} (h : Srt L) : (keys L).Pairwise (· < ·) := List.pairwise_map.2 h
theorem intKeys_dat (L : List (Int × Value)) : intKeys (dat L) = keys L := by
 simp only [dat, intKeys, keys, List.map_map]
 rfl
theorem sort_perm {xs ys : List Int} (h : ys.Perm xs) (hs : xs.Pairwise (· < ·)) : ys.mergeSort (fun x y => decide (x ≤ y)) = xs := by
 refine List.Perm.eq_of_pairwise (le := fun a b => a ≤ b) (fun a b _ _ h1 h2 => by omega) ?_ (hs.imp fun h => by omega) ((List.mergeSort_perm _ _).trans h)
 have := List.pairwise_mergeSort (le := fun x y : Int => decide (x ≤ y)) (fun a b c h1 h2 => by simp at *; omega) (fun a b => by simp; omega) ys
 exact this.imp fun h => by simpa using h
theorem sortsA (m : Nat) : AnyZI.SortsIn Tryz.prog Tryz.sortedA_ren Fence.wide m :=
  ⟨fun blk off cap ss W hH hblk hsz => callsIn_wide.2 (AnyM.slices_Sort_int Tryz.sortA blk off cap ss W hH hblk hsz),
   fun p cap W => callsIn_wide.2 (AnyM.slices_Sort_int_none Tryz.sortA p cap W)⟩
theorem mkeys (mb : Option Nat) (W : World) : Calls Tryz.prog 168 #[.map mb] W fun e w' =>
  e = .returned (.func (.func 210) #[] #[.pointer (some ⟨W.heap.size, 0, none⟩)]) ∧ w' = W.alloc (.cells #[.map mb] 162) :=
 (callsIn_wide (n := 6)).1 (AnyZI.keys_in Tryz.keysA Fence.wide 6 trivial rfl mb W)
theorem msorted (b Bm : Nat) (L : List (Int × Value)) (w : World) (hBm : Bm < w.heap.size) (hm : w.cell? ⟨Bm, 0, none⟩ = some (.map (some b))) (hown : MapIs Tryz.prog 3 w b L) (hlen : L.length ≤ 1000000000) :
  Calls Tryz.prog 167 #[.func (.func 210) #[] #[.pointer (some ⟨Bm, 0, none⟩)]] w fun e w' => ∃ v, e = .returned v ∧ IntRow w' w.heap.size v (keys L) ∧ Below w.heap.size w w' := by
 have hsrt := hown.srt (int_keyed Tryz.underlying3)
 have hseq := AnyZI.keys_gives (ρ := Tryz.keysA_ren) { Tryz.keysA with } Fence.wide 2 trivial rfl (by omega) Bm b _ (dat L) w hBm hm hown
 have cS := AnyZI.sorted_in Tryz.sortedA Fence.wide 5 trivial trivial trivial trivial rfl (by omega) (sortsA _) (enters_of Tryz.func209 (by kernel_rfl) rfl) 210 #[.pointer (some ⟨Bm, 0, none⟩)] trivial (enters_of Tryz.func210 (by kernel_rfl) rfl) _ (Maps.size (dat L)) (by rw [dat_size]; unfold maxLen; omega) (by rw [dat_size]; omega) w hseq
 refine ((callsIn_wide (n := 5)).1 cS).mono ?_
 rintro e w' ⟨v, ss, rfl, hS, hrow, hnil, hb⟩
 rw [intKeys_dat] at hS
 have hs := sort_perm hS (keys_sorted hsrt)
 refine ⟨v, rfl, ?_, hb⟩
 have hl : (keys L).length = ss.length := hS.length_eq.symm
 unfold IntRow
 rw [hl]
 have := hrow
 rw [hs] at this
 exact this
end Go.Proofs.YtlfikhblmbidmaaGreatDoor
namespace Go.Proofs.YtlfikhblmbidmaaGreatDoor
open Go.RowKit Go.Maps
abbrev Ent := Int × Int × ByteArray
abbrev entV (s : Int) (e : Ent) : Value := .agg #[.int .i64 s, .int .i64 e.1, .int .i64 e.2.1, .string e.2.2]
abbrev EL := List (Int × Ent)
structure AccAt (w : World) (p m : Nat) (n r d base : Int) (L : EL) : Prop where
 blk : Blk w p 164 #[.int .i64 n, .int .i64 r, .int .i64 d, .map (some m), .int .i64 base]
 map : MapIs Tryz.prog 3 w m (encF entV L)
namespace AccAt
variable {w w' : World} {p m : Nat} {n r d base : Int} {L : EL}
theorem ne (h : AccAt w p m n r d base L) : p ≠ m := by
 obtain ⟨es, c, hm⟩ := h.map.block
 exact h.blk.ne_map hm
theorem fr {S : Nat → Prop} (h : AccAt w p m n r d base L) (k : Fr S w w') (hp : ¬ S p) (hm : ¬ S m) : AccAt w' p m n r d base L := ⟨h.blk.fr k hp, h.map.of_block (k.block m h.map.lt hm)⟩
theorem drew (h : AccAt w p m n r d base L) : AccAt w.drew p m n r d base L := ⟨h.blk, h.map⟩
theorem drewN (h : AccAt w p m n r d base L) (k : Nat) : AccAt (w.drewN k) p m n r d base L := ⟨h.blk, h.map⟩
theorem alloc (h : AccAt w p m n r d base L) (o : Obj) : AccAt (w.alloc o) p m n r d base L := ⟨h.blk.alloc o, h.map.of_block (Below.heap_alloc w o m h.map.lt)⟩
theorem below (h : AccAt w p m n r d base L) (k : Below w.heap.size w w') : AccAt w' p m n r d base L := h.fr (Fr.of_below k : Fr S0 w w') (fun h => h) (fun h => h)
theorem lt (h : AccAt w p m n r d base L) : p < w.heap.size ∧ m < w.heap.size := ⟨h.blk.lt, h.map.lt⟩
theorem c0 (h : AccAt w p m n r d base L) : w.cell? ⟨p, 0, none⟩ = some (.int .i64 n) := h.blk.cell rfl
theorem c1 (h : AccAt w p m n r d base L) : w.cell? ⟨p, 1, none⟩ = some (.int .i64 r) := h.blk.cell rfl
theorem c2 (h : AccAt w p m n r d base L) : w.cell? ⟨p, 2, none⟩ = some (.int .i64 d) := h.blk.cell rfl
theorem c3 (h : AccAt w p m n r d base L) : w.cell? ⟨p, 3, none⟩ = some (.map (some m)) := h.blk.cell rfl
theorem c4 (h : AccAt w p m n r d base L) : w.cell? ⟨p, 4, none⟩ = some (.int .i64 base) := h.blk.cell rfl
end AccAt
theorem wf64 {n : Int} (h : -9223372036854775808 ≤ n ∧ n ≤ 9223372036854775807) : (Lit.int .i64 n).wf = true := WalkArith.wf_i64 h
theorem zeroEnt (w : World) : (zeroValue 128).run Tryz.prog w = .ok (entV 0 (0, 0, ⟨#[]⟩)) w := by kernel_rfl
theorem avalid (p : Nat) (n : Int) (w : World) (h : w.cell? ⟨p, 0, none⟩ = some (.int .i64 n)) (hn : 0 < n) :
  Calls Tryz.prog 119 #[.pointer (some ⟨p, 0, none⟩)] w fun e w' => e = .returned (.bool true) ∧ w = w' := by
 go_enter Tryz.func119, Tryz.ntmps119
 go_wp2
 go_ret
 exact ⟨rfl, rfl⟩
def okN (n : Int) : Prop := 1 ≤ n ∧ n ≤ 7
theorem new_yes (n : Int) (w : World) (hn : okN n) : Calls Tryz.prog 69 #[.int .i64 n] w fun e w' => ∃ p m, e = .returned (.tuple #[.pointer (some ⟨p, 0, none⟩), .int .i64 0]) ∧ AccAt w' p m n 0 0 0 [] ∧ w.heap.size ≤ p ∧ w.heap.size ≤ m ∧ Below w.heap.size w w' := by
 obtain ⟨h1, h2⟩ := hn
 have hmm := @run_makeMap Tryz.prog
 have h1' : decide (n < 1) = false := by simp; omega
 have h2' : decide (n > 7) = false := by simp; omega
 clear h1 h2
 go_enter Tryz.func69, Tryz.ntmps69
 go_wp2
 go_ret2
 refine ⟨w.heap.size + 1, w.heap.size, rfl, ⟨?_, (MapIs.made w _ _).of_block (Below.heap_alloc _ _ _ (by simp))⟩, by omega, Nat.le_refl _, ((Below.refl _ _).alloc (Nat.le_refl _) _).alloc (by simp) _⟩
 have := Blk.new (w.alloc (.map #[] 0)) 164 #[.int .i64 n, .int .i64 0, .int .i64 0, .map (some w.heap.size), .int .i64 0]
 rwa [World.size_alloc] at this
theorem base_any (p m : Nat) (n r d base : Int) (L : EL) (w : World) (h : AccAt w p m n r d base L) (hn : 0 < n) :
  Calls Tryz.prog 79 #[.pointer (some ⟨p, 0, none⟩)] w fun e w' => e = .returned (.int .i64 base) ∧ w = w' := by
 have c0 := h.c0
 have c4 := h.c4
 clear h
 go_enter Tryz.func79, Tryz.ntmps79
 go_wp2_with (go_at_call 119; refine (avalid p n _ c0 hn).mono ?_; rintro e w' ⟨rfl, rfl⟩)
 go_ret
 exact ⟨rfl, rfl⟩
theorem promised_any (p m : Nat) (n r d base : Int) (L : EL) (w : World) (h : AccAt w p m n r d base L) (hn : 0 < n) :
  Calls Tryz.prog 77 #[.pointer (some ⟨p, 0, none⟩)] w fun e w' => e = .returned (balV r d) ∧ Below w.heap.size w w' := by
 have c0 := h.c0
 have c1 := h.c1
 have c2 := h.c2
 have hb := box_below w (.cells #[.int .i64 0, .int .i64 0] 24)
 have k0 := bcell hb c0
 have k1 := bcell hb c1
 have k2 := bcell hb c2
 have f0 := (Blk.new w 24 #[.int .i64 0, .int .i64 0]).frozen 0
 have f1 := (Blk.new w 24 #[.int .i64 0, .int .i64 0]).frozen 1
 have HB := Lib.hid hb
 clear h hb
 go_enter Tryz.func77, Tryz.ntmps77
 go_wp2_with (go_at_call 119; refine (avalid p n _ k0 hn).mono ?_; rintro e w' ⟨rfl, rfl⟩)
 go_returns
 exact ⟨rfl, box_below _ _⟩
def goodB (n r d : Int) : Bool := !(r == 0 && d == 0) && (chkE n r d == 0)
set_option maxHeartbeats 1000000 in
theorem good_any (p m : Nat) (n r d base r1 d1 : Int) (L : EL) (w : World) (h : AccAt w p m n r d base L) (hn : 0 < n) :
  Calls Tryz.prog 120 #[.pointer (some ⟨p, 0, none⟩), balV r1 d1] w fun e w' => e = .returned (.bool (goodB n r1 d1)) ∧ Below w.heap.size w w' := by
 have hE := fun (a b c d : Int) (w : World) => eqBal a b c d w
 have hG := eqGBal
 have hB0 := fun w => bldBal0 w
 have c0 := h.c0
 have hb := box_below w (.cells #[.int .i64 r1, .int .i64 d1] 24)
 have k0 := bcell hb c0
 have b1 := Blk.new w 24 #[.int .i64 r1, .int .i64 d1]
 have e0 := b1.cell (i := 0) (v := .int .i64 r1) rfl
 have e1 := b1.cell (i := 1) (v := .int .i64 d1) rfl
 have HB := Lib.hid hb
 unfold goodB
 by_cases hz : r1 = 0 ∧ d1 = 0
 ·obtain ⟨rfl, rfl⟩ := hz
  clear h hb b1 c0
  go_enter Tryz.func120, Tryz.ntmps120
  go_wp2_with fail
  generalize (w.alloc (.cells #[.int .i64 0, .int .i64 0] 24)) = W1 at *
  refine wp_region_held_drew (S := (fun W => W.cell? ⟨w.heap.size, 0, none⟩ = some (.int .i64 0) ∧ W.cell? ⟨w.heap.size, 1, none⟩ = some (.int .i64 0))) (by kernel_rfl) ?_ (fun hHeld => ?_)
  ·exact ⟨e0, e1⟩
  try dsimp only at hHeld
  refine hY 0 (some 5) hHeld ?_
  refine hY 1 (some 6) hHeld ?_
  refine hY 2 (some 7) hHeld ?_
  refine hY 3 (some 8) hHeld ?_
  refine hN 4 (some 9) (wanted_t rfl rfl rfl) hHeld ?_
  refine hN 5 (some 10) (wanted_t rfl rfl rfl) hHeld ?_
  refine hN 6 (some 11) (wanted_t rfl rfl rfl) hHeld ?_
  refine hN 7 (some 12) (wanted_t rfl rfl rfl) hHeld ?_
  refine hN 8 (some 13) (wanted_t rfl rfl rfl) hHeld ?_
  refine hN 9 (some 14) (wanted_t rfl rfl rfl) hHeld ?_
  refine hN 10 (some 15) (wanted_t rfl rfl rfl) hHeld ?_
  refine hY 11 (some 16) hHeld ?_
  refine hY 12 (some 4) hHeld ?_
  refine wpAnyH_done (by kernel_rfl) ?_ _
  go_wp2_with fail
  go_returns
  exact ⟨by simp, HB.out.drew⟩
 ·have h3' : (r1 == 0 && d1 == 0) = false := by
   by_cases e : r1 = 0
   ·by_cases e2 : d1 = 0
    ·exact absurd ⟨e, e2⟩ hz
    ·simp [e2]
   ·simp [e]
  clear h hb b1 c0 hz
  go_enter Tryz.func120, Tryz.ntmps120
  go_wp2_with fail
  generalize (w.alloc (.cells #[.int .i64 r1, .int .i64 d1] 24)) = W1 at *
  go_region_held3 (fun W => W.cell? ⟨w.heap.size, 0, none⟩ = some (.int .i64 r1) ∧ W.cell? ⟨w.heap.size, 1, none⟩ = some (.int .i64 d1) ∧ W.cell? ⟨p, 0, none⟩ = some (.int .i64 n))
   (first | exact ⟨by assumption, by assumption, by assumption⟩ | go_keep)
   (first
    | (go_at_call 149; refine (check_any _ _ _ _).mono ?_; rintro e w2 ⟨rfl, b2⟩; have q0 := bcell b2 e0; have q1 := bcell b2 e1; have q2 := bcell b2 k0; have HB2 := Lib.hid b2; clear b2))
  go_wp2_with fail
  go_returns
  exact ⟨by rw [h3']; rfl, bchain HB.out ((Below.refl _ _).drew.trans (HB2.out.mono (by simp)))⟩
def accdV (k : Int) (L : EL) : Value := .tuple #[((get k L).map (entV k)).getD (entV 0 (0, 0, ⟨#[]⟩)), .bool (get k L).isSome]
set_option maxHeartbeats 1000000 in
theorem accepted_any (p m : Nat) (n r d base k : Int) (L : EL) (w : World) (h : AccAt w p m n r d base L) (hn : 0 < n) (hk : -9223372036854775808 ≤ k ∧ k ≤ 9223372036854775807) :
  Calls Tryz.prog 83 #[.pointer (some ⟨p, 0, none⟩), .int .i64 k] w fun e w' => e = .returned (accdV k L) ∧ Below w.heap.size w w' := by
 have h1 := h.alloc (.cells #[.int .i64 0, .int .i64 0, .int .i64 0, .string ⟨#[]⟩] 128)
 have c0 := h1.c0
 have c3 := h1.c3
 have HT := Lib.hid h1
 clear h h1
 unfold accdV
 cases hq : get k L with
 | none =>
  have hq2 : get k (encF entV L) = none := by rw [get_encF, hq]; rfl
  clear hq
  go_enter Tryz.func83, Tryz.ntmps83
  go_wp2_with (first
   | (go_at_call 119; refine (avalid p n _ c0 hn).mono ?_; rintro e w' ⟨rfl, rfl⟩)
   | (at_lookup; refine wpList_look _ rfl _ _ 162 rfl 3 128 Tryz.underlying3 Tryz.underlying162 (entV 0 (0, 0, ⟨#[]⟩)) (zeroEnt _) m (encF entV L) rfl HT.out.map k rfl (wf64 hk) ?_))
  go_returns
  exact ⟨rfl, ((Below.refl _ _).alloc (Nat.le_refl _) _).alloc (by simp) _⟩
 | some e =>
  have hq2 : get k (encF entV L) = some (entV k e) := by rw [get_encF, hq]; rfl
  clear hq
  go_enter Tryz.func83, Tryz.ntmps83
  go_wp2_with (first
   | (go_at_call 119; refine (avalid p n _ c0 hn).mono ?_; rintro e w' ⟨rfl, rfl⟩)
   | (at_lookup; refine wpList_look _ rfl _ _ 162 rfl 3 128 Tryz.underlying3 Tryz.underlying162 (entV 0 (0, 0, ⟨#[]⟩)) (zeroEnt _) m (encF entV L) rfl HT.out.map k rfl (wf64 hk) ?_))
  go_returns
  exact ⟨rfl, ((Below.refl _ _).alloc (Nat.le_refl _) _).alloc (by simp) _⟩
end Go.Proofs.YtlfikhblmbidmaaGreatDoor
namespace Go.Proofs.YtlfikhblmbidmaaGreatDoor
open Go.RowKit Go.Maps Go.Shelf
def entCells (p : Int × Ent) : List Value := [.int .i64 p.1, .int .i64 p.2.1, .int .i64 p.2.2.1, .string p.2.2.2]
def cellsE (L : EL) : List Value := L.flatMap entCells
theorem cellsE_length (L : EL) : (cellsE L).length = L.length * 4 := by
 induction L with
 | nil => rfl
 | cons x r ih => simp only [cellsE, List.flatMap_cons, List.length_append, List.length_cons] at ih ⊢; rw [ih]; simp [entCells]; omega
theorem cellsE_append (L M : EL) : cellsE (L ++ M) = cellsE L ++ cellsE M := by simp [cellsE]
theorem cellsE_at : ∀ (L : EL) (i : Nat) (p : Int × Ent), L[i]? = some p → ∀ j u, (entCells p)[j]? = some u → (cellsE L)[i * 4 + j]? = some u
 | [], i, p, h, j, u, hu => by simp at h
 | x :: r, 0, p, h, j, u, hu => by
  simp at h
  subst h
  have hj : j < 4 := (List.getElem?_eq_some_iff.1 hu).1
  simp only [cellsE, List.flatMap_cons]
  rw [List.getElem?_append_left (by simp [entCells]; omega)]
  simpa using hu
 | x :: r, i + 1, p, h, j, u, hu => by
  have ih := cellsE_at r i p (by simpa using h) j u hu
  simp only [cellsE, List.flatMap_cons]
  rw [List.getElem?_append_right (by simp [entCells]; omega)]
  rw [show (i + 1) * 4 + j - (entCells x).length = i * 4 + j by simp [entCells]; omega]
  exact ih
def EntRow (w : World) (lo : Nat) (v : Value) (L : EL) : Prop := w.ownsRow lo 128 4 v L.length (cellsE L)
namespace EntRow
variable {w w' : World} {lo lo' : Nat} {v : Value} {L : EL}
theorem nil (w : World) (lo : Nat) : EntRow w lo (.slice none 0 0) [] := World.ownsRow_nil _ _ _ _
theorem lower (h : EntRow w lo v L) (hb : lo' ≤ lo) : EntRow w lo' v L := row_lower h hb
theorem fr {S : Nat → Prop} (h : EntRow w lo v L) (k : Fr S w w') (hS : ∀ i, S i → i < lo) : EntRow w' lo v L :=
 row_fr h k fun g hg hs => by have := (h.lt g hg).1; have := hS g hs; omega
theorem below (h : EntRow w lo v L) (k : Below w.heap.size w w') : EntRow w' lo v L := h.fr (Fr.of_below k : Fr S0 w w') (fun i h => h.elim)
theorem view (h : EntRow w lo v L) : ∃ (A : Option Addr) (cap : Nat), v = .slice A L.length cap ∧ L.length ≤ cap ∧
  (0 < L.length → ∃ g, A = some ⟨g, 0, none⟩ ∧ lo ≤ g ∧ g < w.heap.size ∧ ∀ i s e, L[i]? = some (s, e) →
   w.cell? ⟨g, i * 4, none⟩ = some (.int .i64 s) ∧ w.cell? ⟨g, i * 4 + 1, none⟩ = some (.int .i64 e.1) ∧ w.cell? ⟨g, i * 4 + 2, none⟩ = some (.int .i64 e.2.1) ∧ w.cell? ⟨g, i * 4 + 3, none⟩ = some (.string e.2.2)) := by
 obtain ⟨A, cap, hv, hle, _, _, _, hc⟩ := row_view h
 refine ⟨A, cap, hv, hle, fun h0 => ?_⟩
 obtain ⟨g, hA, h1, h2, h3⟩ := hc h0
 refine ⟨g, hA, h1, h2, fun i s e hi => ?_⟩
 have := cellsE_at L i (s, e) hi
 exact ⟨h3 _ _ (this 0 _ rfl), h3 _ _ (this 1 _ rfl), h3 _ _ (this 2 _ rfl), h3 _ _ (this 3 _ rfl)⟩
end EntRow
def listL (k : Int) (L : EL) : EL := L.filter fun p => decide (k ≤ p.1)
theorem keys_encF {β : Type} (f : Int → β → Value) (L : List (Int × β)) : keys (encF f L) = keys L := by simp [keys, encF]
theorem filter_lt_sorted (k : Int) : ∀ {L : EL}, Srt L → L.filter (fun p => decide (k ≤ p.1)) = L.drop ((keys L).countP (fun x => decide (x < k)))
 | [], _ => rfl
 | x :: r, h => by
  have h1 := List.pairwise_cons.1 h
  by_cases hx : x.1 < k
  ·have : ¬ k ≤ x.1 := by omega
   simp only [keys, List.map_cons, List.countP_cons, hx, decide_true, if_true, List.drop_succ_cons, List.filter_cons, this, decide_false, Bool.false_eq_true, if_false]
   exact filter_lt_sorted k h1.2
  ·have hge : k ≤ x.1 := by omega
   have hz : (keys (x :: r)).countP (fun y => decide (y < k)) = 0 := by
    rw [List.countP_eq_zero]
    intro y hy
    simp only [keys, List.map_cons, List.mem_cons, List.mem_map] at hy
    rcases hy with rfl | ⟨q, hq, rfl⟩
    ·simpa using hge
    ·have := h1.1 q hq; simp; omega
   rw [hz, List.drop_zero, List.filter_eq_self]
   intro q hq
   rcases List.mem_cons.1 hq with rfl | hq
   ·simpa using hge
   ·have := h1.1 q hq; simp; omega
theorem info_ent : (Tryz.prog.info? 128).map (fun i => (i.zero, i.size, i.bytes)) = some (some (entV 0 (0, 0, ⟨#[]⟩)), 4, 40) := by kernel_rfl
theorem srt_encF {β : Type} {f : Int → β → Value} {L : List (Int × β)} (h : Srt (encF f L)) : Srt L := by
 unfold Srt encF at *
 simpa [List.pairwise_map] using h
theorem reads_new (w : World) (T : TypeId) (xs : List Value) (n size : Nat) (hl : xs.length = n * size) : Reads (w.alloc (.cells xs.toArray T)) size (some ⟨w.heap.size, 0, none⟩) n xs :=
 ⟨hl, fun _ => ⟨_, rfl, fun j u hu => by rw [add_zero_spot]; exact (Blk.new _ _ _).cell (by simpa using hu)⟩⟩
theorem entCells_one (p : Int × Ent) : ∀ u ∈ entCells p, u.oneCell' := by
 intro u hu
 simp only [entCells, List.mem_cons, List.not_mem_nil, or_false] at hu
 rcases hu with rfl | rfl | rfl | rfl <;> simp [Value.oneCell']
theorem bsearch (lo : Nat) (v : Value) (xs : List Int) (x : Int) (w : World) (h : IntRow w lo v xs) (hs : xs.Pairwise (· < ·)) (hl : xs.length ≤ 1000000000) :
  Calls Tryz.prog 169 #[v, .int .i64 x] w fun e w' => ∃ b, e = .returned (.tuple #[.int .i64 (xs.countP (fun y => decide (y < x)) : Nat), .bool b]) ∧ ∃ q, w' = w.drewN q := by
 obtain ⟨A, cap, rfl, hle, hc⟩ := h.view
 by_cases h0 : 0 < xs.length
 ·obtain ⟨g, rfl, _, _, hcell⟩ := hc h0
  refine (Tryz.slices_BinarySearch_int g 0 xs.length cap xs x w (Nat.le_refl _) (by omega) (fun j hj => ?_) ?_).mono ?_
  ·rw [Nat.zero_add]
   refine hcell j _ ?_
   rw [List.getD_eq_getElem?_getD, List.getElem?_eq_getElem hj]
   rfl
  ·rw [List.take_length]
   exact hs.imp fun h => by omega
  ·rintro e w' ⟨rfl, q, rfl⟩
   rw [List.take_length]
   exact ⟨_, rfl, q, rfl⟩
 ·have hx : xs = [] := List.length_eq_zero_iff.1 (by omega)
  subst hx
  refine (Tryz.slices_BinarySearch_int_empty A cap x w).mono ?_
  rintro e w' ⟨rfl, rfl⟩
  exact ⟨false, rfl, 0, rfl⟩
set_option maxHeartbeats 2000000 in
theorem list_any (p m : Nat) (n r d base k : Int) (L : EL) (w : World) (h : AccAt w p m n r d base L) (hn : 0 < n) (hl : L.length ≤ 100000) (hin : ∀ p ∈ L, -9223372036854775808 ≤ p.1 ∧ p.1 ≤ 9223372036854775807) :
  Calls Tryz.prog 78 #[.pointer (some ⟨p, 0, none⟩), .int .i64 k] w fun e w' => ∃ v, e = .returned v ∧ EntRow w' w.heap.size v (listL k L) ∧ Below w.heap.size w w' := by
 have c0 := h.c0
 have c3 := h.c3
 have hlt := h.lt
 have hsrt : Srt L := by
  have := h.map.srt (int_keyed Tryz.underlying3)
  exact srt_encF this
 have HT := Lib.hid h
 have HS := Lib.hid hsrt
 have HIN := Lib.hid hin
 clear h hsrt hin
 go_enter Tryz.func78, Tryz.ntmps78
 go_wp2_with (first
  | (go_at_call 119; refine (avalid p n _ c0 hn).mono ?_; rintro e w' ⟨rfl, rfl⟩)
  | (go_at_call 168; refine (mkeys _ _).mono ?_; rintro e w' ⟨rfl, rfl⟩)
  | (go_at_call 167; refine (msorted m _ (encF entV L) _ (by simp) (by simp [go_sem]) (HT.out.alloc _).map (by rw [encF_length]; omega)).mono ?_; rintro e w2 ⟨v, rfl, hr2, hb2⟩))
 rw [keys_encF] at hr2
 have hB2 : Below w.heap.size w w2 := (box_below _ _).trans (hb2.mono (by simp))
 have hr3 := hr2.lower (lo' := w.heap.size) (by simp)
 have hks := keys_sorted HS.out
 have hkl : (keys L).length = L.length := by simp [keys]
 have hcnt : (keys L).countP (fun x => decide (x < k)) ≤ L.length := by rw [← hkl]; exact List.countP_le_length
 have hfl := filter_lt_sorted k HS.out
 obtain ⟨f, hf⟩ : ∃ f, f = (keys L).countP (fun x => decide (x < k)) := ⟨_, rfl⟩
 rw [← hf] at hcnt hfl
 obtain ⟨A, cap, rfl, hle, hcells⟩ := hr3.view
 have HR := Lib.hid hr3
 have HK := Lib.hid hks
 have HB2 := Lib.hid hB2
 have HC := Lib.hid hcells
 have HFL := Lib.hid hfl
 have HF := Lib.hid hf
 have hN := hkl
 clear hr2 hr3 hks hb2 hB2 hcells hfl hf
 rw [hkl] at hle
 simp only [hkl]
 obtain ⟨i0, hi, hz0, hz1, hz2⟩ := info_parts info_ent
 have HI := Lib.hid hi
 have HZ0 := Lib.hid hz0
 have HZ1 := Lib.hid hz1
 have HZ2 := Lib.hid hz2
 clear hi hz0 hz1 hz2
 have hnl : (listL k L).length = L.length - f := by unfold listL; rw [HFL.out]; simp
 have HNL := Lib.hid hnl
 clear hnl
 by_cases hfN : f < L.length
 ·obtain ⟨g, rfl, hg1, hg2, hg3⟩ := HC.out (by omega)
  have HG := Lib.hid hg3
  have hcf : ¬ cap = f := by omega
  clear hg3
  go_wp2_with (first
   | (go_at_call 169; refine (bsearch w.heap.size _ (keys L) k _ (by have := HR.out; rwa [hkl] at this) HK.out (by omega)).mono ?_; rintro e w3 ⟨b, rfl, q, rfl⟩; rw [← HF.out]))
  go_loopw [8, 30] (fun v c wr => ∃ i : Nat, i ≤ L.length - f ∧ c = .int .i64 i ∧ wr.ownsRow w2.heap.size 128 4 v i (cellsE ((listL k L).take i)) ∧ Below w2.heap.size w2 wr)
   (fun _ c _ => L.length - (intOf c).toNat)
  case atStart => exact ⟨0, by omega, rfl, World.ownsRow_nil _ _ _ _, below_drewN (Below.refl _ _) _⟩
  case round =>
   obtain ⟨i, hi, rfl, hrow, hB⟩ := hrel
   have HROW := Lib.hid hrow
   clear hrow
   by_cases hlt : i < L.length - f
   ·obtain ⟨⟨s, e⟩, hs⟩ : ∃ x, (listL k L)[i]? = some x := ⟨_, List.getElem?_eq_getElem (by have := HNL.out; omega)⟩
    have hs2 : L[f + i]? = some (s, e) := by
     have := hs
     unfold listL at this
     rw [HFL.out, List.getElem?_drop] at this
     exact this
    have hkx : (keys L)[f + i]? = some s := by simp [keys, hs2]
    have hq2 : get s (encF entV L) = some (entV s e) := by rw [get_encF, get_of_mem HS.out (List.mem_of_getElem? hs2)]; rfl
    have hcx := bcell hB (HG.out (f + i) s hkx)
    have hBw : Below w.heap.size w wr := HB2.out.trans (hB.mono HB2.out.size)
    have HT2 := HT.out.below hBw
    have d3 := HT2.c3
    have hwx : (Lit.int .i64 s).wf = true := wf64 (HIN.out _ (List.mem_of_getElem? hs2))
    have HM2 := Lib.hid HT2.map
    have HSn := Lib.hid (take_snoc hs)
    clear hs hs2 hkx HT2
    go_wp2_with (first
     | (at_lookup; refine wpList_look1 _ rfl _ _ 162 rfl 3 128 Tryz.underlying3 Tryz.underlying162 (entV 0 (0, 0, ⟨#[]⟩)) (zeroEnt _) m (encF entV L) rfl HM2.out s rfl hwx ?_)
     | (at_builtin; go_must (refine wpList_app rfl _ _ 67 rfl w2.heap.size 128 i0 (entV 0 (0, 0, ⟨#[]⟩)) 4 40 Tryz.underlying67 HI.out HZ0.out HZ1.out HZ2.out rfl (by decide) _ _ _ rfl (World.ownsRow.alloc HROW.out _) (some ⟨wr.heap.size, 0, none⟩) 1 1 (entCells (s, e)) rfl (by simp) (by omega) (reads_new _ _ (entCells (s, e)) 1 4 rfl) (entCells_one _) (by unfold maxLen; omega) (by omega) (by have := hB.size; simp; omega) ?_)))
    intro v' w4 hown hgrow _
    have hne1 : ∀ k', some k' = _ → w2.heap.size ≤ k' := fun k' hk' => (HROW.out.lt k' hk'.symm).1
    rw [show cellsE ((listL k L).take i) ++ entCells (s, e) = cellsE ((listL k L).take (i + 1)) by rw [HSn.out, cellsE_append]; simp [cellsE]] at hown
    have hB4 := (hB.alloc hB.size _).grown hgrow (by have := hB.size; simp; omega) (fun k' ek => by have := hne1 k' ek.symm; omega)
    go_wp2_with fail
    go_roundw
    case rel => exact ⟨i + 1, by omega, by go_num, hown, hB4⟩
    case measure => simp [intOf]; omega
   ·have e : i = L.length - f := by omega
    subst e
    go_wp2_with fail
    go_returns
    have hrow := HROW.out
    rw [List.take_of_length_le (by rw [HNL.out]; exact Nat.le_refl _), ← HNL.out] at hrow
    exact ⟨_, rfl, row_lower hrow HB2.out.size, HB2.out.trans (hB.mono HB2.out.size)⟩
 ·have hfe : L.length ≤ f := by omega
  have hnil : listL k L = [] := List.length_eq_zero_iff.1 (by rw [HNL.out]; omega)
  have HNI := Lib.hid hnil
  clear hnil
  have hcf : cap = f ∨ ¬ cap = f := by omega
  rcases hcf with hcf | hcf
  all_goals
   cases A
   all_goals
    go_wp2_with (first
     | (go_at_call 169; refine (bsearch w.heap.size _ (keys L) k _ (by have := HR.out; rwa [hkl] at this) HK.out (by omega)).mono ?_; rintro e w3 ⟨b, rfl, q, rfl⟩; rw [← HF.out]))
    go_loopw [8, 30] (fun v c wr => v = .slice none 0 0 ∧ c = .int .i64 0 ∧ Below w.heap.size w wr) (fun _ _ _ => 0)
    case atStart => exact ⟨rfl, rfl, below_drewN HB2.out _⟩
    case round =>
     obtain ⟨rfl, rfl, hB⟩ := hrel
     go_wp2_with fail
     go_returns
     exact ⟨_, rfl, by rw [HNI.out]; exact EntRow.nil _ _, hB⟩
end Go.Proofs.YtlfikhblmbidmaaGreatDoor
namespace Go.Proofs.YtlfikhblmbidmaaGreatDoor
open Go.RowKit Go.Maps Go.Shelf
theorem AccAt.setBal {w : World} {p m : Nat} {n r d base : Int} {L : EL} (h : AccAt w p m n r d base L) (r1 d1 : Int) :
  AccAt ((w.setCell ⟨p, 1, none⟩ (.int .i64 r1)).setCell ⟨p, 2, none⟩ (.int .i64 d1)) p m n r1 d1 base L ∧ Fr (S1 p) w ((w.setCell ⟨p, 1, none⟩ (.int .i64 r1)).setCell ⟨p, 2, none⟩ (.int .i64 d1)) := by
 have hf : Fr (S1 p) w ((w.setCell ⟨p, 1, none⟩ (.int .i64 r1)).setCell ⟨p, 2, none⟩ (.int .i64 d1)) := ((Fr.refl (S1 p) w).setCell (p := ⟨p, 1, none⟩) (.inl (show S1 p p from rfl)) _).setCell (p := ⟨p, 2, none⟩) (.inl (show S1 p p from rfl)) _
 exact ⟨⟨(h.blk.set 1 _).set 2 _, h.map.of_block (hf.block m h.map.lt (fun e => h.ne e.symm))⟩, hf⟩
def PromPost (p m : Nat) (n r1 d1 base k : Int) (L : EL) (w : World) (e : Ending) (w' : World) : Prop :=
 ∃ v, e = .returned (.tuple #[v, .int .i64 0]) ∧ EntRow w' w.heap.size v (listL k L) ∧ AccAt w' p m n r1 d1 base L ∧ Fr (S1 p) w w'
def promE (n r d r1 d1 k : Int) : Int := if goodB n r1 d1 = false ∨ k < 0 ∨ 4096 < k then 2 else if ordB (r1, d1) (r, d) < 0 then 8 else 0
set_option maxHeartbeats 1000000 in
theorem promise_bad (p m : Nat) (n r d base r1 d1 k : Int) (L : EL) (w : World) (h : AccAt w p m n r d base L) (hn : 0 < n) (hE : promE n r d r1 d1 k ≠ 0) :
  Calls Tryz.prog 38 #[.pointer (some ⟨p, 0, none⟩), balV r1 d1, .int .i64 k] w fun e w' => e = .returned (.tuple #[.slice none 0 0, .int .i64 (promE n r d r1 d1 k)]) ∧ Below w.heap.size w w' := by
 have h1 := h.alloc (.cells #[.int .i64 r1, .int .i64 d1] 24)
 have hb := box_below w (.cells #[.int .i64 r1, .int .i64 d1] 24)
 have b1 := Blk.new w 24 #[.int .i64 r1, .int .i64 d1]
 have c0 := h1.c0
 have c1 := h1.c1
 have c2 := h1.c2
 have e0 := b1.cell (i := 0) (v := .int .i64 r1) rfl
 have e1 := b1.cell (i := 1) (v := .int .i64 d1) rfl
 have HT := Lib.hid h1
 have HB := Lib.hid hb
 clear h h1 b1 hb
 cases hg : goodB n r1 d1 with
 | false =>
  have E : promE n r d r1 d1 k = 2 := by simp [promE, hg]
  rw [E]; clear E hE
  go_enter Tryz.func38, Tryz.ntmps38
  go_wp2_with (first
   | (go_at_call 119; refine (avalid p n _ c0 hn).mono ?_; rintro e w' ⟨rfl, rfl⟩)
   | (go_at_call 120; refine (good_any p m n r d base r1 d1 L _ HT.out hn).mono ?_; rintro e w2 ⟨rfl, b2⟩; have HB2 := Lib.hid b2; clear b2))
  go_returns
  exact ⟨rfl, bchain HB.out HB2.out⟩
 | true =>
  by_cases hk0 : k < 0
  ·have E : promE n r d r1 d1 k = 2 := by simp [promE, hk0]
   rw [E]; clear E hE
   go_enter Tryz.func38, Tryz.ntmps38
   go_wp2_with (first
    | (go_at_call 119; refine (avalid p n _ c0 hn).mono ?_; rintro e w' ⟨rfl, rfl⟩)
    | (go_at_call 120; refine (good_any p m n r d base r1 d1 L _ HT.out hn).mono ?_; rintro e w2 ⟨rfl, b2⟩; have HB2 := Lib.hid b2; clear b2))
   go_returns
   exact ⟨rfl, bchain HB.out HB2.out⟩
  have hk0' : decide (k < 0) = false := by simpa using hk0
  by_cases hk1 : k > 4096
  ·have E : promE n r d r1 d1 k = 2 := by simp only [promE, if_pos (show goodB n r1 d1 = false ∨ k < 0 ∨ 4096 < k from .inr (.inr hk1))]
   rw [E]; clear E hE hk0
   go_enter Tryz.func38, Tryz.ntmps38
   go_wp2_with (first
    | (go_at_call 119; refine (avalid p n _ c0 hn).mono ?_; rintro e w' ⟨rfl, rfl⟩)
    | (go_at_call 120; refine (good_any p m n r d base r1 d1 L _ HT.out hn).mono ?_; rintro e w2 ⟨rfl, b2⟩; have HB2 := Lib.hid b2; clear b2))
   go_returns
   exact ⟨rfl, bchain HB.out HB2.out⟩
  have hk1' : decide (k > 4096) = false := by simpa using hk1
  by_cases ho : ordB (r1, d1) (r, d) < 0
  ·have E : promE n r d r1 d1 k = 8 := by simp only [promE, if_neg (show ¬ (goodB n r1 d1 = false ∨ k < 0 ∨ 4096 < k) by rw [hg]; simp; omega), if_pos ho]
   rw [E]; clear E hE hk0 hk1
   go_enter Tryz.func38, Tryz.ntmps38
   go_wp2_with (first
    | (go_at_call 119; refine (avalid p n _ c0 hn).mono ?_; rintro e w' ⟨rfl, rfl⟩)
    | (go_at_call 120; refine (good_any p m n r d base r1 d1 L _ HT.out hn).mono ?_; rintro e w2 ⟨rfl, b2⟩; have q0 := bcell b2 c0; have q1 := bcell b2 c1; have q2 := bcell b2 c2; have q3 := bcell b2 e0; have q4 := bcell b2 e1; have HB2 := Lib.hid (bchain HB.out b2); clear b2))
   clear c0 c1 c2 e0 e1
   go_region_held3 (fun W => W.cell? ⟨w.heap.size, 0, none⟩ = some (.int .i64 r1) ∧ W.cell? ⟨w.heap.size, 1, none⟩ = some (.int .i64 d1) ∧ W.cell? ⟨p, 1, none⟩ = some (.int .i64 r) ∧ W.cell? ⟨p, 2, none⟩ = some (.int .i64 d))
    (first | exact ⟨by assumption, by assumption, by assumption, by assumption⟩ | go_keep)
    (first
     | (go_at_call 121; refine (order_any _ _ _ _ _).mono ?_; rintro e w3 ⟨rfl, b3⟩; have u1 := bcell b3 q1; have u2 := bcell b3 q2; have u3 := bcell b3 q3; have u4 := bcell b3 q4; have HB3 := Lib.hid b3; clear b3))
   go_wp2_with fail
   go_returns
   exact ⟨rfl, bchain HB2.out ((Below.refl _ _).drew.trans (HB3.out.mono (by simp)))⟩
  ·exact absurd (by simp only [promE, if_neg (show ¬ (goodB n r1 d1 = false ∨ k < 0 ∨ 4096 < k) by rw [hg]; simp; omega), if_neg ho]) hE
set_option maxHeartbeats 1000000 in
theorem promise_yes (p m : Nat) (n r d base r1 d1 k : Int) (L : EL) (w : World) (h : AccAt w p m n r d base L) (hn : 0 < n) (hE : promE n r d r1 d1 k = 0)
  (hl : L.length ≤ 100000) (hin : ∀ p ∈ L, -9223372036854775808 ≤ p.1 ∧ p.1 ≤ 9223372036854775807) :
  Calls Tryz.prog 38 #[.pointer (some ⟨p, 0, none⟩), balV r1 d1, .int .i64 k] w (PromPost p m n r1 d1 base k L w) := by
 have h1 := h.alloc (.cells #[.int .i64 r1, .int .i64 d1] 24)
 have hb := box_below w (.cells #[.int .i64 r1, .int .i64 d1] 24)
 have b1 := Blk.new w 24 #[.int .i64 r1, .int .i64 d1]
 have c0 := h1.c0
 have c1 := h1.c1
 have c2 := h1.c2
 have hlt := h.lt
 have e0 := b1.cell (i := 0) (v := .int .i64 r1) rfl
 have e1 := b1.cell (i := 1) (v := .int .i64 d1) rfl
 have hg : goodB n r1 d1 = true := by
  cases hg : goodB n r1 d1
  ·simp [promE, hg] at hE
  ·rfl
 have hk : 0 ≤ k ∧ k ≤ 4096 := by
  refine Classical.byContradiction fun hc => ?_
  rw [promE, if_pos (by right; omega)] at hE
  simp at hE
 have hk0' : decide (k < 0) = false := by simp; omega
 have hk1' : decide (k > 4096) = false := by simp; omega
 have ho : decide (ordB (r1, d1) (r, d) < 0) = false := by
  simp only [decide_eq_false_iff_not]
  intro hc
  rw [promE, if_neg (by rw [hg]; simp; omega), if_pos hc] at hE
  simp at hE
 have HT := Lib.hid h1
 have HB := Lib.hid hb
 have HIN := Lib.hid hin
 clear h h1 b1 hb hE hk hin
 go_enter Tryz.func38, Tryz.ntmps38
 go_wp2_with (first
  | (go_at_call 119; refine (avalid p n _ c0 hn).mono ?_; rintro e w' ⟨rfl, rfl⟩)
  | (go_at_call 120; refine (good_any p m n r d base r1 d1 L _ HT.out hn).mono ?_; rintro e w2 ⟨rfl, b2⟩; have q0 := bcell b2 c0; have q1 := bcell b2 c1; have q2 := bcell b2 c2; have q3 := bcell b2 e0; have q4 := bcell b2 e1; have HT2 := Lib.hid (HT.out.below b2); have HB2 := Lib.hid (bchain HB.out b2); clear b2))
 clear c0 c1 c2 e0 e1
 go_region_held3 (fun W => W.cell? ⟨w.heap.size, 0, none⟩ = some (.int .i64 r1) ∧ W.cell? ⟨w.heap.size, 1, none⟩ = some (.int .i64 d1) ∧ W.cell? ⟨p, 1, none⟩ = some (.int .i64 r) ∧ W.cell? ⟨p, 2, none⟩ = some (.int .i64 d))
  (first | exact ⟨by assumption, by assumption, by assumption, by assumption⟩ | go_keep)
  (first
   | (go_at_call 121; refine (order_any _ _ _ _ _).mono ?_; rintro e w3 ⟨rfl, b3⟩; have u0 := bcell b3 q0; have u1 := bcell b3 q1; have u2 := bcell b3 q2; have u3 := bcell b3 q3; have u4 := bcell b3 q4; have HB3 := Lib.hid b3; clear b3))
 have hb3 : Below w.heap.size w w3 := bchain HB2.out ((Below.refl _ _).drew.trans (HB3.out.mono (by simp)))
 have t3 := HT2.out.drew.below HB3.out
 have f1 := t3.blk.frozen 1
 have f2 := t3.blk.frozen 2
 have HB4 := Lib.hid hb3
 have HT3 := Lib.hid t3
 clear q0 q1 q2 q3 q4 hb3 t3
 go_wp2_with fail
 have hs := HT3.out.setBal r1 d1
 have HA := Lib.hid hs.1
 have HF := Lib.hid hs.2
 have HLT := Lib.hid hlt
 clear hs f1 f2 u0 u1 u2 u3 u4 hlt
 generalize ((w3.setCell ⟨p, 1, none⟩ (.int .i64 r1)).setCell ⟨p, 2, none⟩ (.int .i64 d1)) = W4 at *
 go_wp2_with (go_at_call 78; refine (list_any p m n r1 d1 base k L _ HA.out hn hl HIN.out).mono ?_; rintro e w4 ⟨v, rfl, hr4, b4⟩)
 go_returns
 exact ⟨v, rfl, hr4.lower (Nat.le_trans HB4.out.size HF.out.size), HA.out.below b4, ((Fr.of_below HB4.out).trans HF.out).trans (Fr.of_below b4)⟩
def accE (n r d base r1 d1 k : Int) (len : Nat) : Int :=
 if goodB n r1 d1 = false ∨ k < 0 ∨ 4096 ≤ k then 2 else if 65536 < len then 11 else if ordB (r1, d1) (r, d) < 0 then 8 else if k < base then 3 else 0
set_option maxHeartbeats 2000000 in
theorem accept_bad (p m : Nat) (n r d base r1 d1 k : Int) (s : ByteArray) (L : EL) (w : World) (h : AccAt w p m n r d base L) (hn : 0 < n) (hE : accE n r d base r1 d1 k s.size ≠ 0) :
  Calls Tryz.prog 40 #[.pointer (some ⟨p, 0, none⟩), balV r1 d1, .int .i64 k, .string s] w fun e w' => e = .returned (.int .i64 (accE n r d base r1 d1 k s.size)) ∧ Below w.heap.size w w' := by
 have h1 := h.alloc (.cells #[.int .i64 r1, .int .i64 d1] 24)
 have hb := box_below w (.cells #[.int .i64 r1, .int .i64 d1] 24)
 have b1 := Blk.new w 24 #[.int .i64 r1, .int .i64 d1]
 have c0 := h1.c0
 have c1 := h1.c1
 have c2 := h1.c2
 have c3 := h1.c3
 have c4 := h1.c4
 have hlt := h.lt
 have e0 := b1.cell (i := 0) (v := .int .i64 r1) rfl
 have e1 := b1.cell (i := 1) (v := .int .i64 d1) rfl
 have HT := Lib.hid h1
 have HB := Lib.hid hb
 clear h h1 b1 hb
 cases hg : goodB n r1 d1 with
 | false =>
  have E : accE n r d base r1 d1 k s.size = 2 := by simp [accE, hg]
  rw [E]; clear E hE
  go_enter Tryz.func40, Tryz.ntmps40
  go_wp2_with (first
   | (go_at_call 119; refine (avalid p n _ c0 hn).mono ?_; rintro e w' ⟨rfl, rfl⟩)
   | (go_at_call 120; refine (good_any p m n r d base r1 d1 L _ HT.out hn).mono ?_; rintro e w2 ⟨rfl, b2⟩; have HB2 := Lib.hid (bchain HB.out b2); clear b2))
  go_returns
  exact ⟨rfl, HB2.out⟩
 | true =>
  by_cases hk0 : k < 0
  ·have E : accE n r d base r1 d1 k s.size = 2 := by simp [accE, hk0]
   rw [E]; clear E hE
   go_enter Tryz.func40, Tryz.ntmps40
   go_wp2_with (first
    | (go_at_call 119; refine (avalid p n _ c0 hn).mono ?_; rintro e w' ⟨rfl, rfl⟩)
    | (go_at_call 120; refine (good_any p m n r d base r1 d1 L _ HT.out hn).mono ?_; rintro e w2 ⟨rfl, b2⟩; have HB2 := Lib.hid (bchain HB.out b2); clear b2))
   go_returns
   exact ⟨rfl, HB2.out⟩
  have hk0' : decide (k < 0) = false := by simpa using hk0
  by_cases hk1 : k ≥ 4096
  ·have E : accE n r d base r1 d1 k s.size = 2 := by simp only [accE, if_pos (show goodB n r1 d1 = false ∨ k < 0 ∨ 4096 ≤ k from .inr (.inr hk1))]
   rw [E]; clear E hE hk0
   go_enter Tryz.func40, Tryz.ntmps40
   go_wp2_with (first
    | (go_at_call 119; refine (avalid p n _ c0 hn).mono ?_; rintro e w' ⟨rfl, rfl⟩)
    | (go_at_call 120; refine (good_any p m n r d base r1 d1 L _ HT.out hn).mono ?_; rintro e w2 ⟨rfl, b2⟩; have HB2 := Lib.hid (bchain HB.out b2); clear b2))
   go_returns
   exact ⟨rfl, HB2.out⟩
  have hk1' : decide (k ≥ 4096) = false := by simpa using hk1
  have hG : ¬ (goodB n r1 d1 = false ∨ k < 0 ∨ 4096 ≤ k) := by rw [hg]; simp; omega
  by_cases hs : s.size > 65536
  ·have hs' : decide ((s.size : Int) > 65536) = true := by simp; omega
   have E : accE n r d base r1 d1 k s.size = 11 := by simp only [accE, if_neg hG, if_pos hs]
   rw [E]; clear E hE hk0 hk1 hG hs
   go_enter Tryz.func40, Tryz.ntmps40
   go_wp2_with (first
    | (go_at_call 119; refine (avalid p n _ c0 hn).mono ?_; rintro e w' ⟨rfl, rfl⟩)
    | (go_at_call 120; refine (good_any p m n r d base r1 d1 L _ HT.out hn).mono ?_; rintro e w2 ⟨rfl, b2⟩; have HB2 := Lib.hid (bchain HB.out b2); clear b2))
   go_returns
   exact ⟨rfl, HB2.out⟩
  have hs' : decide ((s.size : Int) > 65536) = false := by simp; omega
  have hs2 : ¬ 65536 < s.size := hs
  by_cases ho : ordB (r1, d1) (r, d) < 0
  ·have E : accE n r d base r1 d1 k s.size = 8 := by simp only [accE, if_neg hG, if_neg hs2, if_pos ho]
   rw [E]; clear E hE hk0 hk1 hG hs hs2
   go_enter Tryz.func40, Tryz.ntmps40
   go_wp2_with (first
    | (go_at_call 119; refine (avalid p n _ c0 hn).mono ?_; rintro e w' ⟨rfl, rfl⟩)
    | (go_at_call 120; refine (good_any p m n r d base r1 d1 L _ HT.out hn).mono ?_; rintro e w2 ⟨rfl, b2⟩; have q0 := bcell b2 c0; have q1 := bcell b2 c1; have q2 := bcell b2 c2; have q3 := bcell b2 e0; have q4 := bcell b2 e1; have q5 := bcell b2 c4; have HT2 := Lib.hid (HT.out.below b2); have HB2 := Lib.hid (bchain HB.out b2); clear b2))
   clear c0 c1 c2 c3 c4 e0 e1
   go_region_held3 (fun W => W.cell? ⟨w.heap.size, 0, none⟩ = some (.int .i64 r1) ∧ W.cell? ⟨w.heap.size, 1, none⟩ = some (.int .i64 d1) ∧ W.cell? ⟨p, 1, none⟩ = some (.int .i64 r) ∧ W.cell? ⟨p, 2, none⟩ = some (.int .i64 d))
    (first | exact ⟨by assumption, by assumption, by assumption, by assumption⟩ | go_keep)
    (first
     | (go_at_call 121; refine (order_any _ _ _ _ _).mono ?_; rintro e w3 ⟨rfl, b3⟩; have u0 := bcell b3 q0; have u1 := bcell b3 q1; have u2 := bcell b3 q2; have u3 := bcell b3 q3; have u4 := bcell b3 q4; have u5 := bcell b3 q5; have HB3 := Lib.hid b3; clear b3))
   go_wp2_with fail
   go_returns
   exact ⟨rfl, bchain HB2.out ((Below.refl _ _).drew.trans (HB3.out.mono (by simp)))⟩
  by_cases hbs : k < base
  ·have E : accE n r d base r1 d1 k s.size = 3 := by simp only [accE, if_neg hG, if_neg hs2, if_neg ho, if_pos hbs]
   have ho' : decide (ordB (r1, d1) (r, d) < 0) = false := by simpa using ho
   rw [E]; clear E hE hk0 hk1 hG hs hs2 ho
   go_enter Tryz.func40, Tryz.ntmps40
   go_wp2_with (first
    | (go_at_call 119; refine (avalid p n _ c0 hn).mono ?_; rintro e w' ⟨rfl, rfl⟩)
    | (go_at_call 120; refine (good_any p m n r d base r1 d1 L _ HT.out hn).mono ?_; rintro e w2 ⟨rfl, b2⟩; have q0 := bcell b2 c0; have q1 := bcell b2 c1; have q2 := bcell b2 c2; have q3 := bcell b2 e0; have q4 := bcell b2 e1; have q5 := bcell b2 c4; have HT2 := Lib.hid (HT.out.below b2); have HB2 := Lib.hid (bchain HB.out b2); clear b2))
   clear c0 c1 c2 c3 c4 e0 e1
   go_region_held3 (fun W => W.cell? ⟨w.heap.size, 0, none⟩ = some (.int .i64 r1) ∧ W.cell? ⟨w.heap.size, 1, none⟩ = some (.int .i64 d1) ∧ W.cell? ⟨p, 1, none⟩ = some (.int .i64 r) ∧ W.cell? ⟨p, 2, none⟩ = some (.int .i64 d))
    (first | exact ⟨by assumption, by assumption, by assumption, by assumption⟩ | go_keep)
    (first
     | (go_at_call 121; refine (order_any _ _ _ _ _).mono ?_; rintro e w3 ⟨rfl, b3⟩; have u0 := bcell b3 q0; have u1 := bcell b3 q1; have u2 := bcell b3 q2; have u3 := bcell b3 q3; have u4 := bcell b3 q4; have u5 := bcell b3 q5; have HB3 := Lib.hid b3; clear b3))
   go_wp2_with fail
   go_returns
   exact ⟨rfl, bchain HB2.out ((Below.refl _ _).drew.trans (HB3.out.mono (by simp)))⟩
  ·exact absurd (by simp only [accE, if_neg hG, if_neg hs2, if_neg ho, if_neg hbs]) hE
def AccPost (p m : Nat) (n r1 d1 base k : Int) (s : ByteArray) (L : EL) (w : World) (e : Ending) (w' : World) : Prop :=
 e = .returned (.int .i64 0) ∧ AccAt w' p m n r1 d1 base (put k (r1, d1, s) L) ∧ Fr (S2 p m) w w'
set_option maxRecDepth 100000 in
set_option maxHeartbeats 2000000 in
theorem accept_yes (p m : Nat) (n r d base r1 d1 k : Int) (s : ByteArray) (L : EL) (w : World) (h : AccAt w p m n r d base L) (hn : 0 < n) (hE : accE n r d base r1 d1 k s.size = 0) (hl : L.length ≤ 100000) :
  Calls Tryz.prog 40 #[.pointer (some ⟨p, 0, none⟩), balV r1 d1, .int .i64 k, .string s] w (AccPost p m n r1 d1 base k s L w) := by
 have h1 := h.alloc (.cells #[.int .i64 r1, .int .i64 d1] 24)
 have hb := box_below w (.cells #[.int .i64 r1, .int .i64 d1] 24)
 have b1 := Blk.new w 24 #[.int .i64 r1, .int .i64 d1]
 have c0 := h1.c0
 have c1 := h1.c1
 have c2 := h1.c2
 have c3 := h1.c3
 have c4 := h1.c4
 have hlt := h.lt
 have e0 := b1.cell (i := 0) (v := .int .i64 r1) rfl
 have e1 := b1.cell (i := 1) (v := .int .i64 d1) rfl
 have hg : goodB n r1 d1 = true := by
  cases hg : goodB n r1 d1
  ·simp [accE, hg] at hE
  ·rfl
 have hk : 0 ≤ k ∧ k < 4096 := by
  refine Classical.byContradiction fun hc => ?_
  rw [accE, if_pos (by right; omega)] at hE
  simp at hE
 have hG : ¬ (goodB n r1 d1 = false ∨ k < 0 ∨ 4096 ≤ k) := by rw [hg]; simp; omega
 have hk0' : decide (k < 0) = false := by simp; omega
 have hk1' : decide (k ≥ 4096) = false := by simp; omega
 rw [accE, if_neg hG] at hE
 have hs : ¬ 65536 < s.size := fun hc => by rw [if_pos hc] at hE; simp at hE
 have hs' : decide ((s.size : Int) > 65536) = false := by simp; omega
 rw [if_neg hs] at hE
 have ho : ¬ ordB (r1, d1) (r, d) < 0 := fun hc => by rw [if_pos hc] at hE; simp at hE
 have ho' : decide (ordB (r1, d1) (r, d) < 0) = false := by simpa using ho
 rw [if_neg ho] at hE
 have hbs : ¬ k < base := fun hc => by rw [if_pos hc] at hE; simp at hE
 have hbs' : decide (k < base) = false := by simpa using hbs
 have HT := Lib.hid h1
 have HB := Lib.hid hb
 clear h h1 b1 hb hE hG hs ho hbs
 go_enter Tryz.func40, Tryz.ntmps40
 go_wp2_with (first
  | (go_at_call 119; refine (avalid p n _ c0 hn).mono ?_; rintro e w' ⟨rfl, rfl⟩)
  | (go_at_call 120; refine (good_any p m n r d base r1 d1 L _ HT.out hn).mono ?_; rintro e w2 ⟨rfl, b2⟩; have q0 := bcell b2 c0; have q1 := bcell b2 c1; have q2 := bcell b2 c2; have q3 := bcell b2 e0; have q4 := bcell b2 e1; have q5 := bcell b2 c4; have HT2 := Lib.hid (HT.out.below b2); have HB2 := Lib.hid (bchain HB.out b2); clear b2))
 clear c0 c1 c2 c3 c4 e0 e1
 go_region_held3 (fun W => W.cell? ⟨w.heap.size, 0, none⟩ = some (.int .i64 r1) ∧ W.cell? ⟨w.heap.size, 1, none⟩ = some (.int .i64 d1) ∧ W.cell? ⟨p, 1, none⟩ = some (.int .i64 r) ∧ W.cell? ⟨p, 2, none⟩ = some (.int .i64 d))
  (first | exact ⟨by assumption, by assumption, by assumption, by assumption⟩ | go_keep)
  (first
   | (go_at_call 121; refine (order_any _ _ _ _ _).mono ?_; rintro e w3 ⟨rfl, b3⟩; have u0 := bcell b3 q0; have u1 := bcell b3 q1; have u2 := bcell b3 q2; have u3 := bcell b3 q3; have u4 := bcell b3 q4; have u5 := bcell b3 q5; have HB3 := Lib.hid b3; clear b3))
 have hb3 : Below w.heap.size w w3 := bchain HB2.out ((Below.refl _ _).drew.trans (HB3.out.mono (by simp)))
 have t3 := HT2.out.drew.below HB3.out
 have f1 := t3.blk.frozen 1
 have f2 := t3.blk.frozen 2
 have hs := t3.setBal r1 d1
 have e0 : ((w3.setCell ⟨p, 1, none⟩ (.int .i64 r1)).setCell ⟨p, 2, none⟩ (.int .i64 d1)).cell? ⟨w.heap.size, 0, none⟩ = some (.int .i64 r1) := hs.2.cell (fun e => by have e : w.heap.size = p := e; omega) u3
 have e1 : ((w3.setCell ⟨p, 1, none⟩ (.int .i64 r1)).setCell ⟨p, 2, none⟩ (.int .i64 d1)).cell? ⟨w.heap.size, 1, none⟩ = some (.int .i64 d1) := hs.2.cell (fun e => by have e : w.heap.size = p := e; omega) u4
 have HB4 := Lib.hid hb3
 have HA := Lib.hid hs.1
 have HF := Lib.hid hs.2
 have d3 := hs.1.c3
 clear q0 q1 q2 q3 q4 q5 hb3 t3 hs
 go_wp2_with fail
 clear u0 u1 u2 u3 u4 u5 f1 f2
 generalize ((w3.setCell ⟨p, 1, none⟩ (.int .i64 r1)).setCell ⟨p, 2, none⟩ (.int .i64 d1)) = W4 at *
 go_still_tail 9, (by kernel_rfl)
 refine wpList_upd _ rfl _ _ _ 162 rfl 3 128 Tryz.underlying3 Tryz.underlying162 m (encF entV L) rfl HA.out.drew.map (by rw [encF_length]; omega) k (entV k (r1, d1, s)) rfl rfl (wf64 (by omega)) ?_
 rintro w5 hm5 hg5
 rw [put_encF entV k (r1, d1, s)] at hm5
 have HM := Lib.hid hm5
 clear hm5
 go_wp2_with fail
 go_returns
 have hf : Fr (S1 m) W4 w5 := Fr.of_drew (Fr.of_grown hg5 (fun i e => by cases e; rfl))
 exact ⟨rfl, ⟨HA.out.blk.fr hf HA.out.ne, HM.out⟩, ((Fr.of_below HB4.out).trans (HF.out.mono (fun i e => .inl e))).trans (hf.mono (fun i e => .inr e))⟩
end Go.Proofs.YtlfikhblmbidmaaGreatDoor
namespace Go.Proofs.YtlfikhblmbidmaaGreatDoor
open Go.RowKit Go.Maps Go.Shelf
theorem mclone (b : Nat) (es : Array MapEntry) (clock : Nat) (w : World) (hb : w.heap[b]? = some (.map es clock)) :
  Calls Tryz.prog 147 #[.map (some b)] w fun e w' => e = .returned (.map (some w.heap.size)) ∧ w' = w.alloc (.map es clock) :=
 AnyW.maps_Clone Tryz.cloneM b es clock w hb
def CopyPost (n r d base : Int) (L : EL) (w : World) (e : Ending) (w' : World) : Prop :=
 ∃ p' m', e = .returned (.pointer (some ⟨p', 0, none⟩)) ∧ AccAt w' p' m' n r d base L ∧ w.heap.size ≤ p' ∧ w.heap.size ≤ m' ∧ Below w.heap.size w w'
set_option maxHeartbeats 400000 in
theorem copy_any (p m : Nat) (n r d base : Int) (L : EL) (w : World) (h : AccAt w p m n r d base L) (hn : 0 < n) :
  Calls Tryz.prog 60 #[.pointer (some ⟨p, 0, none⟩)] w (CopyPost n r d base L w) := by
 have c0 := h.c0
 have c1 := h.c1
 have c2 := h.c2
 have c3 := h.c3
 have c4 := h.c4
 obtain ⟨es, clock, hm⟩ := h.map.block
 have hp := h.lt
 have hcs : ∃ cs, cs = (Obj.cells #[.int .i64 n, .int .i64 r, .int .i64 d, .map (some m), .int .i64 base] 164) := ⟨_, rfl⟩
 obtain ⟨cs, hcs⟩ := hcs
 have h2 := h.alloc cs
 have d3 := h2.c3
 have hm2 : (w.alloc cs).heap[m]? = some (.map es clock) := (Below.heap_alloc w cs m hp.2).trans hm
 subst hcs
 have b2 := Blk.new w 164 #[.int .i64 n, .int .i64 r, .int .i64 d, .map (some m), .int .i64 base]
 have b3 := b2.alloc (.map es clock)
 have f3 := b3.frozen 3
 have HT := Lib.hid h
 have HM := Lib.hid hm
 have HM2 := Lib.hid hm2
 clear h hm hm2 h2 b2 b3
 go_enter Tryz.func60, Tryz.ntmps60
 go_wp2_with (first
  | (go_at_call 119; refine (avalid p n _ c0 hn).mono ?_; rintro e w' ⟨rfl, rfl⟩)
  | (go_at_call 147; refine (mclone m es clock _ HM2.out).mono ?_; rintro e w' ⟨rfl, rfl⟩))
 go_returns
 refine ⟨w.heap.size, w.heap.size + 1, rfl, ⟨(Blk.new w _ _).alloc _, HT.out.map.clone HM.out ?_⟩, Nat.le_refl _, by omega, ((Below.refl _ _).alloc (Nat.le_refl _) _).alloc (by simp) _⟩
 have := (MapKept.heap_alloc (w.alloc (.cells #[.int .i64 n, .int .i64 r, .int .i64 d, .map (some (w.heap.size + 1)), .int .i64 base] 164)) (.map es clock)).1
 rwa [World.size_alloc] at this
theorem old_any (q : Nat) (x k : Int) (w : World) (h : w.cell? ⟨q, 0, none⟩ = some (.int .i64 k)) :
  Calls Tryz.prog 129 #[.int .i64 x, .pointer (some ⟨q, 0, none⟩)] w fun e w' => e = .returned (.bool (decide (x < k))) ∧ w = w' := by
 go_enter Tryz.func129, Tryz.ntmps129
 go_wp2
 go_ret
 exact ⟨rfl, rfl⟩
structure FA (k : Int) (L M : EL) (left : Lit → Bool) : Prop where
 srt : Srt M
 mem : ∀ q, q ∈ M ↔ q ∈ L ∧ (left (.int .i64 q.1) = true ∨ ¬ q.1 < k)
namespace FA
variable {k x : Int} {L M : EL} {left : Lit → Bool}
theorem start (k : Int) {L : EL} (h : Srt L) : FA k L L (Maps.has (dat (encF entV L))) :=
 ⟨h, fun q => ⟨fun hq => ⟨hq, .inl (by rw [dat_has, get_encF, get_of_mem h (v := q.2) hq]; rfl)⟩, fun hq => hq.1⟩⟩
theorem keep (h : FA k L M left) (hx : ¬ x < k) : FA k L M (fun z => left z && !z.sameKey (.int .i64 x)) := by
 refine ⟨h.srt, fun q => ?_⟩
 rw [h.mem q]
 simp only [same_eq]
 refine and_congr_right fun _ => ?_
 by_cases e : q.1 = x
 ·subst e; simp [hx]
 ·have : (q.1 == x) = false := by simpa using e
  simp [this]
theorem gone (h : FA k L M left) (hx : x < k) : FA k L (del x M) (fun z => left z && !z.sameKey (.int .i64 x)) := by
 refine ⟨srt_del h.srt, fun q => ?_⟩
 rw [mem_del, h.mem q]
 simp only [same_eq]
 by_cases e : q.1 = x
 ·subst e; simp [hx]
 ·have : (q.1 == x) = false := by simpa using e
  simp [this, e]
theorem done (h : FA k L M left) (hs : Srt L) (hl : ∀ z, left z = false) : M = L.filter (fun p => !decide (p.1 < k)) := by
 refine srt_ext h.srt (hs.filter _) fun q => ?_
 rw [h.mem q, List.mem_filter, hl]
 simp
end FA
def forL (k : Int) (L : EL) : EL := L.filter fun p => !decide (p.1 < k)
def ForgPost (p m : Nat) (n r d base k : Int) (L : EL) (w : World) (e : Ending) (w' : World) : Prop :=
 e = .returned (.int .i64 0) ∧ AccAt w' p m n r d (max base k) (forL k L) ∧ Fr (S2 p m) w w'
set_option maxRecDepth 100000 in
set_option maxHeartbeats 1000000 in
theorem forget_yes (p m : Nat) (n r d base k : Int) (L : EL) (w : World) (h : AccAt w p m n r d base L) (hn : 0 < n) (hk : 0 ≤ k ∧ k ≤ 4096) :
  Calls Tryz.prog 44 #[.pointer (some ⟨p, 0, none⟩), .int .i64 k] w (ForgPost p m n r d base k L w) := by
 have h1 := h.alloc (.cells #[.int .i64 k] 3)
 have hb := box_below w (.cells #[.int .i64 k] 3)
 have b1 := Blk.new w 3 #[.int .i64 k]
 have c0 := h1.c0
 have c3 := h1.c3
 have c4 := h1.c4
 have hlt := h.lt
 have e0 := b1.cell (i := 0) (v := .int .i64 k) rfl
 have hk0' : decide (k < 0) = false := by simp; omega
 have hk1' : decide (k > 4096) = false := by simp; omega
 have hsrt : Srt L := srt_encF (h.map.srt (int_keyed Tryz.underlying3))
 have HT := Lib.hid h1
 have HB := Lib.hid hb
 have HS := Lib.hid hsrt
 have hsz : w.heap.size + 1 = (w.alloc (.cells #[.int .i64 k] 3)).heap.size := by simp
 clear h h1 b1 hb hk hsrt
 go_enter Tryz.func44, Tryz.ntmps44
 go_wp2_with (first
  | (go_at_call 119; refine (avalid p n _ c0 hn).mono ?_; rintro e w' ⟨rfl, rfl⟩)
  | (at_range; refine wpList_range_own _ rfl _ 162 rfl 3 128 (int_keyed Tryz.underlying3) Tryz.underlying162 RV m _ (dat (encF entV L)) rfl HT.out.map ?_; rintro w2 hr2 hg2 hs2))
 go_frame
 generalize (w.alloc (.cells #[.int .i64 k] 3)) = W1 at *
 obtain ⟨rr, hrr⟩ : ∃ rr, rr = W1.heap.size := ⟨_, rfl⟩
 rw [← hrr] at hr2 ⊢
 have hf2 : Fr (S1 m) W1 w2 := Fr.of_grown hg2 (fun i e => by cases e)
 have hw2 : w2.heap.size = rr + 1 := by omega
 have HR2 := Lib.hid hr2
 have HF2 := Lib.hid hf2
 have HBX := Lib.hid (show W1.cell? ⟨w.heap.size, 0, none⟩ = some (.int .i64 k) from e0)
 have hmlt : m < w.heap.size := hlt.2
 have hplt : p < w.heap.size := hlt.1
 have hrw : w.heap.size < rr := by omega
 have hW1 : rr ≤ W1.heap.size := by omega
 have hW2 : W1.heap.size ≤ rr := by omega
 clear hr2 hf2 hg2 hs2 hrr hsz hlt
 go_loopw [6] (fun _ wr => ∃ (M : EL) (left : Lit → Bool) (cnt : Nat), wr.ranges Tryz.prog 3 RV m rr _ (dat (encF entV M)) left cnt ∧ FA k L M left ∧ Fr (fun i => i = m ∨ i = rr) W1 wr) (fun _ wr => wr.rangeLeft m rr)
 case atStart => exact ⟨L, _, _, HR2.out, FA.start k HS.out, HF2.out.mono (fun i e => .inl e)⟩
 case round =>
  obtain ⟨M, left, cnt, hrg, hfa, hF⟩ := hrel
  have hcnt := hrg.left_eq
  have HCNT := Lib.hid hcnt
  have HRG := Lib.hid hrg
  have HFA := Lib.hid hfa
  have hne : p ≠ m := HT.out.ne
  have hrlt := hrg.lt
  clear hcnt hrg hfa
  have x0 := hF.cell (p := ⟨p, 3, none⟩) (by rintro (e | e) <;> simp at e <;> omega) c3
  have x1 := hF.cell (p := ⟨w.heap.size, 0, none⟩) (by rintro (e | e) <;> simp at e <;> omega) e0
  have x4 := hF.cell (p := ⟨p, 4, none⟩) (by rintro (e | e) <;> simp at e <;> omega) c4
  go_wp2_with (first
   | (at_next; refine wpList_next_encF _ entV rfl _ rfl 3 Tryz.underlying3 m rr _ M left cnt rfl HRG.out ?_ ?_))
  ·-- NO ENTRY IS LEFT
   intro h0 hl
   have hd := HFA.out.done HS.out hl
   have HD := Lib.hid hd
   clear h0 hl hd
   have hb4 : Blk wr p 164 #[.int .i64 n, .int .i64 r, .int .i64 d, .map (some m), .int .i64 base] := HT.out.blk.fr hF (by rintro (e | e) <;> omega)
   have hm4 : MapIs Tryz.prog 3 wr m (encF entV M) := MapIs.of HRG.out.owns
   have f4 := hb4.frozen 4
   have HB4 := Lib.hid hb4
   have HM4 := Lib.hid hm4
   have HF4 := Lib.hid hF
   clear hb4 hm4 hF
   go_wp2_with fail
   go_still_tail 9, (by kernel_rfl)
   go_wp2_with fail
   go_returns
   rw [HD.out] at HM4
   have hset : Fr (S2 p m) wr (wr.drew.setCell ⟨p, 4, none⟩ (.int .i64 (max base k))) := ((Fr.refl (S2 p m) wr).drew).setCell (p := ⟨p, 4, none⟩) (.inl (show S2 p m p from .inl rfl)) _
   refine ⟨rfl, ⟨(HB4.out.set 4 _), HM4.out.of_block (Below.heap_setCell _ _ _ m (fun e => hne e.symm))⟩, ?_⟩
   have h01 : Fr (S2 p m) w W1 := Fr.of_below HB.out
   exact h01.trans ((HF4.out.mono' (S' := S2 p m) (fun i hi e => by rcases e with e | e; exact .inr e; have e : i = rr := e; omega)).trans hset)
  ·-- ONE MORE
   rintro x ea eb ec w3 cnt' hwx hlx hget hrg3 hlt3 hg3 hs3 hen
   have hsv := HRG.out.ne
   have y0 : w3.cell? ⟨p, 3, none⟩ = some (.map (some m)) := (World.cell?_of_block (hg3.block p (by omega) (by simp; omega))).trans x0
   have y1 : w3.cell? ⟨w.heap.size, 0, none⟩ = some (.int .i64 k) := (World.cell?_of_block (hg3.block w.heap.size (by omega) (by simp; omega))).trans x1
   have hF3 : Fr (fun i => i = m ∨ i = rr) W1 w3 := hF.trans (Fr.of_grown hg3 (fun i e => by cases e; exact .inr rfl))
   have HRG3 := Lib.hid hrg3
   have HF3 := Lib.hid hF3
   clear x0 x1 x4 hrg3 hg3 hs3 hF3 hF hlx hget
   by_cases hx : x < k
   ·have HN := Lib.hid (HFA.out.gone hx)
    go_wp2_with (first
     | (go_at_call 129; refine (old_any _ x k _ y1).mono ?_; rintro e w' ⟨rfl, rfl⟩)
     | (at_delete; refine wpList_delete_ranges _ rfl _ _ 162 3 rfl 128 (int_keyed Tryz.underlying3) Tryz.underlying162 RV m rr _ _ _ _ rfl HRG3.out (.int .i64 x) (.int .i64 x) rfl (keyOf_int_mk Tryz.underlying3 hwx) ?_; rintro w4 cnt4 hrg4 hle4 hturn))
    rw [dat_del, del_encF, Maps.strike_twice] at hrg4
    go_wp2_with fail
    go_frame
    go_roundw
    case rel => exact ⟨del x M, _, cnt4, hrg4, HN.out, HF3.out.trans (Fr.of_grown hturn.grown (fun i e => by cases e; exact .inl rfl))⟩
    case measure => rw [hrg4.left_eq, HCNT.out]; omega
   ·have hx' : decide (x < k) = false := by simpa using hx
    have HN := Lib.hid (HFA.out.keep hx)
    clear hx
    go_wp2_with (first
     | (go_at_call 129; refine (old_any _ x k _ y1).mono ?_; rintro e w' ⟨rfl, rfl⟩))
    go_roundw
    case rel => exact ⟨M, _, cnt', HRG3.out, HN.out, HF3.out⟩
    case measure => rw [HRG3.out.left_eq, HCNT.out]; exact hlt3
end Go.Proofs.YtlfikhblmbidmaaGreatDoor
namespace Go.Proofs.YtlfikhblmbidmaaGreatDoor
open Go.RowKit Go.Maps Go.Shelf
def in64 (x : Int) : Prop := -9223372036854775808 ≤ x ∧ x ≤ 9223372036854775807
theorem ordB_lt_iff (a b : Int × Int) : ordB a b < 0 ↔ a.1 < b.1 ∨ (a.1 = b.1 ∧ a.2 < b.2) := by
 unfold ordB firstI cmpI
 split <;> split <;> (try split) <;> (try split) <;> omega
def leBal (a b : Int × Int) : Prop := ordB a b ≤ 0
theorem leBal_iff (a b : Int × Int) : leBal a b ↔ a.1 < b.1 ∨ (a.1 = b.1 ∧ a.2 ≤ b.2) := by
 unfold leBal ordB firstI cmpI
 split <;> split <;> (try split) <;> (try split) <;> omega
theorem leBal_of_not_lt {a b : Int × Int} (h : ¬ ordB a b < 0) : leBal b a := by
 rw [ordB_lt_iff] at h
 rw [leBal_iff]
 omega
theorem not_lt_of_le {a b : Int × Int} (h : leBal b a) : ¬ ordB a b < 0 := by
 rw [leBal_iff] at h
 rw [ordB_lt_iff]
 omega
theorem leBal_refl (a : Int × Int) : leBal a a := by rw [leBal_iff]; omega
theorem leBal_trans {a b c : Int × Int} (h : leBal a b) (k : leBal b c) : leBal a c := by
 rw [leBal_iff] at *
 omega
structure ASt where
 n : Int
 r : Int
 d : Int
 base : Int
 L : EL
structure AGood (s : ASt) : Prop where
 n : 1 ≤ s.n ∧ s.n ≤ 7
 base : 0 ≤ s.base ∧ s.base ≤ 4096
 srt : Srt s.L
 slots : ∀ p ∈ s.L, s.base ≤ p.1 ∧ p.1 < 4096
 len : s.L.length ≤ 4096
 le : ∀ p ∈ s.L, leBal (p.2.1, p.2.2.1) (s.r, s.d)
 good : ∀ p ∈ s.L, goodB s.n p.2.1 p.2.2.1 = true
 pos : goodB s.n s.r s.d = true ∨ s.r = 0 ∧ s.d = 0
theorem srt_len {lo hi : Int} : ∀ {L : EL}, Srt L → (∀ p ∈ L, lo ≤ p.1 ∧ p.1 < hi) → L = [] ∨ (L.length : Int) ≤ hi - lo
 | [], _, _ => .inl rfl
 | x :: r, h, hb => by
  right
  have h1 := List.pairwise_cons.1 h
  have hx := hb x (by simp)
  have ih := srt_len (lo := x.1 + 1) (hi := hi) h1.2 (fun p hp => ⟨by have := h1.1 p hp; omega, (hb p (by simp [hp])).2⟩)
  rcases ih with rfl | ih
  ·simp; omega
  ·simp; omega
structure AS (w : World) (p m : Nat) (s : ASt) : Prop where
 at_ : AccAt w p m s.n s.r s.d s.base s.L
 good : AGood s
namespace AS
variable {w w' : World} {p m : Nat} {s : ASt}
theorem fr {S : Nat → Prop} (h : AS w p m s) (k : Fr S w w') (hp : ¬ S p) (hm : ¬ S m) : AS w' p m s := ⟨h.at_.fr k hp hm, h.good⟩
theorem below (h : AS w p m s) (k : Below w.heap.size w w') : AS w' p m s := ⟨h.at_.below k, h.good⟩
theorem drew (h : AS w p m s) : AS w.drew p m s := ⟨h.at_.drew, h.good⟩
theorem lt (h : AS w p m s) : p < w.heap.size ∧ m < w.heap.size := h.at_.lt
theorem pos (h : AS w p m s) : 0 < s.n := by have := h.good.n; omega
end AS
def newS (n : Int) : ASt := ⟨n, 0, 0, 0, []⟩
theorem AGood.new {n : Int} (h : okN n) : AGood (newS n) := ⟨h, ⟨by simp [newS], by simp [newS]⟩, List.Pairwise.nil, fun p hp => by simp [newS] at hp, by simp [newS], fun p hp => by simp [newS] at hp, fun p hp => by simp [newS] at hp, .inr ⟨rfl, rfl⟩⟩
def prE (s : ASt) (r1 d1 k : Int) : Int := promE s.n s.r s.d r1 d1 k
def prS (s : ASt) (r1 d1 k : Int) : ASt := if prE s r1 d1 k = 0 then { s with r := r1, d := d1 } else s
def acE (s : ASt) (r1 d1 k : Int) (v : ByteArray) : Int := accE s.n s.r s.d s.base r1 d1 k v.size
def acS (s : ASt) (r1 d1 k : Int) (v : ByteArray) : ASt := if acE s r1 d1 k v = 0 then { s with r := r1, d := d1, L := put k (r1, d1, v) s.L } else s
def foE (k : Int) : Int := if k < 0 ∨ 4096 < k then 2 else 0
def foS (s : ASt) (k : Int) : ASt := if foE k = 0 then { s with base := max s.base k, L := forL k s.L } else s
theorem promE_zero {n r d r1 d1 k : Int} : promE n r d r1 d1 k = 0 ↔ goodB n r1 d1 = true ∧ 0 ≤ k ∧ k ≤ 4096 ∧ leBal (r, d) (r1, d1) := by
 unfold promE
 constructor
 ·intro h
  split at h
  ·simp at h
  ·rename_i h1
   split at h
   ·simp at h
   ·rename_i h2
    exact ⟨(Bool.eq_false_or_eq_true _).resolve_right (fun hg => h1 (.inl hg)), by omega, by omega, leBal_of_not_lt h2⟩
 ·rintro ⟨h1, h2, h3, h4⟩
  rw [if_neg (by rw [h1]; simp; omega), if_neg (not_lt_of_le h4)]
theorem accE_zero {n r d base r1 d1 k : Int} {len : Nat} : accE n r d base r1 d1 k len = 0 ↔ goodB n r1 d1 = true ∧ 0 ≤ k ∧ k < 4096 ∧ len ≤ 65536 ∧ leBal (r, d) (r1, d1) ∧ base ≤ k := by
 unfold accE
 constructor
 ·intro h
  split at h
  ·simp at h
  ·rename_i h1
   split at h
   ·simp at h
   ·rename_i h2
    split at h
    ·simp at h
    ·rename_i h3
     split at h
     ·simp at h
     ·exact ⟨(Bool.eq_false_or_eq_true _).resolve_right (fun hg => h1 (.inl hg)), by omega, by omega, by omega, leBal_of_not_lt h3, by omega⟩
 ·rintro ⟨h1, h2, h3, h4, h5, h6⟩
  rw [if_neg (by rw [h1]; simp; omega), if_neg (by omega), if_neg (not_lt_of_le h5), if_neg (by omega)]
theorem AGood.prom {s : ASt} (h : AGood s) (r1 d1 k : Int) : AGood (prS s r1 d1 k) := by
 unfold prS
 split
 ·rename_i he
  obtain ⟨h1, h2, h3, h4⟩ := promE_zero.1 he
  exact ⟨h.n, h.base, h.srt, h.slots, h.len, fun p hp => leBal_trans (h.le p hp) h4, h.good, .inl h1⟩
 ·exact h
theorem AGood.acc {s : ASt} (h : AGood s) (r1 d1 k : Int) (v : ByteArray) : AGood (acS s r1 d1 k v) := by
 unfold acS
 split
 ·rename_i he
  obtain ⟨h1, h2, h3, h4, h5, h6⟩ := accE_zero.1 he
  have hsl : ∀ p ∈ put k (r1, d1, v) s.L, s.base ≤ p.1 ∧ p.1 < 4096 := fun p hp => by
   rcases mem_put.1 hp with rfl | ⟨hp, _⟩
   ·exact ⟨h6, h3⟩
   ·exact h.slots p hp
  have hs := srt_put (k := k) (v := ((r1, d1, v) : Ent)) h.srt
  refine ⟨h.n, h.base, hs, hsl, ?_, fun p hp => ?_, fun p hp => ?_, .inl h1⟩
  ·have hb := h.base
   rcases srt_len (lo := 0) (hi := 4096) hs (fun p hp => ⟨by have := hsl p hp; omega, (hsl p hp).2⟩) with e | e
   ·simp only; rw [e]; simp
   ·simp only; omega
  ·rcases mem_put.1 hp with rfl | ⟨hp, _⟩
   ·exact leBal_refl _
   ·exact leBal_trans (h.le p hp) h5
  ·rcases mem_put.1 hp with rfl | ⟨hp, _⟩
   ·exact h1
   ·exact h.good p hp
 ·exact h
theorem AGood.forg {s : ASt} (h : AGood s) (k : Int) : AGood (foS s k) := by
 unfold foS
 split
 ·rename_i he
  have hk : 0 ≤ k ∧ k ≤ 4096 := by unfold foE at he; split at he <;> simp at he; omega
  have hb := h.base
  refine ⟨h.n, ⟨by simp only; omega, by simp only; omega⟩, h.srt.filter _, fun p hp => ?_, Nat.le_trans (List.length_filter_le _ _) h.len, fun p hp => h.le p (List.mem_filter.1 hp).1, fun p hp => h.good p (List.mem_filter.1 hp).1, h.pos⟩
  obtain ⟨h1, h2⟩ := List.mem_filter.1 hp
  have := h.slots p h1
  simp at h2
  simp only
  omega
 ·exact h
theorem in_of_good {s : ASt} (h : AGood s) : ∀ p ∈ s.L, -9223372036854775808 ≤ p.1 ∧ p.1 ≤ 9223372036854775807 := fun p hp => by
 have := h.slots p hp
 have := h.base
 omega
section
variable (p m : Nat) (s : ASt) (w : World)
theorem new_S (n : Int) (hn : okN n) : Calls Tryz.prog 69 #[.int .i64 n] w fun e w' => ∃ p m, e = .returned (.tuple #[.pointer (some ⟨p, 0, none⟩), .int .i64 0]) ∧ AS w' p m (newS n) ∧ w.heap.size ≤ p ∧ w.heap.size ≤ m ∧ Below w.heap.size w w' :=
 (new_yes n w hn).mono fun _ _ ⟨p, m, h1, h2, h3, h4, h5⟩ => ⟨p, m, h1, ⟨h2, AGood.new hn⟩, h3, h4, h5⟩
theorem base_S (h : AS w p m s) : Calls Tryz.prog 79 #[.pointer (some ⟨p, 0, none⟩)] w fun e w' => e = .returned (.int .i64 s.base) ∧ w = w' :=
 base_any p m _ _ _ _ _ w h.at_ h.pos
theorem promised_S (h : AS w p m s) : Calls Tryz.prog 77 #[.pointer (some ⟨p, 0, none⟩)] w fun e w' => e = .returned (balV s.r s.d) ∧ Below w.heap.size w w' :=
 promised_any p m _ _ _ _ _ w h.at_ h.pos
theorem accepted_S (k : Int) (h : AS w p m s) (hk : in64 k) : Calls Tryz.prog 83 #[.pointer (some ⟨p, 0, none⟩), .int .i64 k] w fun e w' => e = .returned (accdV k s.L) ∧ Below w.heap.size w w' :=
 accepted_any p m _ _ _ _ k _ w h.at_ h.pos hk
theorem list_S (k : Int) (h : AS w p m s) : Calls Tryz.prog 78 #[.pointer (some ⟨p, 0, none⟩), .int .i64 k] w fun e w' => ∃ v, e = .returned v ∧ EntRow w' w.heap.size v (listL k s.L) ∧ Below w.heap.size w w' :=
 list_any p m _ _ _ _ k _ w h.at_ h.pos (by have := h.good.len; omega) (in_of_good h.good)
theorem copy_S (h : AS w p m s) : Calls Tryz.prog 60 #[.pointer (some ⟨p, 0, none⟩)] w fun e w' => ∃ p' m', e = .returned (.pointer (some ⟨p', 0, none⟩)) ∧ AS w' p' m' s ∧ w.heap.size ≤ p' ∧ w.heap.size ≤ m' ∧ Below w.heap.size w w' :=
 (copy_any p m _ _ _ _ _ w h.at_ h.pos).mono fun _ _ ⟨p', m', h1, h2, h3, h4, h5⟩ => ⟨p', m', h1, ⟨h2, h.good⟩, h3, h4, h5⟩
def prL (s : ASt) (r1 d1 k : Int) : EL := if prE s r1 d1 k = 0 then listL k s.L else []
theorem promise_S (r1 d1 k : Int) (h : AS w p m s) : Calls Tryz.prog 38 #[.pointer (some ⟨p, 0, none⟩), balV r1 d1, .int .i64 k] w fun e w' =>
  ∃ v, e = .returned (.tuple #[v, .int .i64 (prE s r1 d1 k)]) ∧ EntRow w' w.heap.size v (prL s r1 d1 k) ∧ AS w' p m (prS s r1 d1 k) ∧ Fr (S1 p) w w' := by
 by_cases hE : prE s r1 d1 k = 0
 ·refine (promise_yes p m _ s.r s.d _ r1 d1 k _ w h.at_ h.pos hE (by have := h.good.len; omega) (in_of_good h.good)).mono ?_
  rintro e w' ⟨v, rfl, h1, h2, h3⟩
  refine ⟨v, by rw [hE], by simp only [prL, if_pos hE]; exact h1, ⟨?_, h.good.prom r1 d1 k⟩, h3⟩
  simp only [prS, if_pos hE]
  exact h2
 ·refine (promise_bad p m _ s.r s.d _ r1 d1 k _ w h.at_ h.pos hE).mono ?_
  rintro e w' ⟨rfl, h1⟩
  refine ⟨_, rfl, by simp only [prL, if_neg hE]; exact EntRow.nil _ _, ?_, Fr.of_below h1⟩
  simp only [prS, if_neg hE]
  exact h.below h1
theorem accept_S (r1 d1 k : Int) (v : ByteArray) (h : AS w p m s) : Calls Tryz.prog 40 #[.pointer (some ⟨p, 0, none⟩), balV r1 d1, .int .i64 k, .string v] w fun e w' =>
  e = .returned (.int .i64 (acE s r1 d1 k v)) ∧ AS w' p m (acS s r1 d1 k v) ∧ Fr (S2 p m) w w' := by
 by_cases hE : acE s r1 d1 k v = 0
 ·refine (accept_yes p m _ s.r s.d s.base r1 d1 k v _ w h.at_ h.pos hE (by have := h.good.len; omega)).mono ?_
  rintro e w' ⟨rfl, h2, h3⟩
  refine ⟨by rw [hE], ⟨?_, h.good.acc r1 d1 k v⟩, h3⟩
  simp only [acS, if_pos hE]
  exact h2
 ·refine (accept_bad p m _ s.r s.d s.base r1 d1 k v _ w h.at_ h.pos hE).mono ?_
  rintro e w' ⟨rfl, h1⟩
  refine ⟨rfl, ?_, Fr.of_below h1⟩
  simp only [acS, if_neg hE]
  exact h.below h1
theorem forget_bad (k : Int) (h : AS w p m s) (hk : k < 0 ∨ 4096 < k) : Calls Tryz.prog 44 #[.pointer (some ⟨p, 0, none⟩), .int .i64 k] w fun e w' => e = .returned (.int .i64 2) ∧ Below w.heap.size w w' := by
 have h1 := h.at_.alloc (.cells #[.int .i64 k] 3)
 have b1 := Blk.new w 3 #[.int .i64 k]
 have c0 := h1.c0
 have e0 := b1.cell (i := 0) (v := .int .i64 k) rfl
 have hn := h.pos
 have hb := box_below w (.cells #[.int .i64 k] 3)
 clear h h1 b1
 by_cases hk0 : k < 0
 ·clear hk
  go_enter Tryz.func44, Tryz.ntmps44
  go_wp2_with (go_at_call 119; refine (avalid p _ _ c0 hn).mono ?_; rintro e w' ⟨rfl, rfl⟩)
  go_returns
  exact ⟨rfl, hb⟩
 ·have hk1 : k > 4096 := by omega
  have hk0' : decide (k < 0) = false := by simpa using hk0
  clear hk hk0
  go_enter Tryz.func44, Tryz.ntmps44
  go_wp2_with (go_at_call 119; refine (avalid p _ _ c0 hn).mono ?_; rintro e w' ⟨rfl, rfl⟩)
  go_returns
  exact ⟨rfl, hb⟩
theorem forget_S (k : Int) (h : AS w p m s) : Calls Tryz.prog 44 #[.pointer (some ⟨p, 0, none⟩), .int .i64 k] w fun e w' =>
  e = .returned (.int .i64 (foE k)) ∧ AS w' p m (foS s k) ∧ Fr (S2 p m) w w' := by
 by_cases hk : k < 0 ∨ 4096 < k
 ·have hE : foE k = 2 := by simp only [foE, if_pos hk]
  refine (forget_bad p m s w k h hk).mono ?_
  rintro e w' ⟨rfl, h1⟩
  refine ⟨by rw [hE], ?_, Fr.of_below h1⟩
  simp only [foS, hE]
  exact h.below h1
 ·have hE : foE k = 0 := by simp only [foE, if_neg hk]
  refine (forget_yes p m _ _ _ _ k _ w h.at_ h.pos (by omega)).mono ?_
  rintro e w' ⟨rfl, h2, h3⟩
  refine ⟨by rw [hE], ⟨?_, h.good.forg k⟩, h3⟩
  simp only [foS, hE, if_true]
  exact h2
end
end Go.Proofs.YtlfikhblmbidmaaGreatDoor