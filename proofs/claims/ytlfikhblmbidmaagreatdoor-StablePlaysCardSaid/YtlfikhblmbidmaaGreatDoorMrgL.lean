/- Laid together by gen/merge.py: R15A R15B R15C. -/
import Derived.Test.YtlfikhblmbidmaaGreatDoorSltH
import Derived.Test.YtlfikhblmbidmaaGreatDoorMrgK
set_option linter.all false
namespace Go.Proofs.YtlfikhblmbidmaaGreatDoor
open Go.RowKit Go.Maps
def atCells (x : Int × ByteArray) : List Value := [.int .i64 x.1, .string x.2]
def cellsT (l : VL) : List Value := l.flatMap atCells
theorem cellsT_snoc (l : VL) (x : Int × ByteArray) : cellsT (l ++ [x]) = cellsT l ++ atCells x := by simp [cellsT]
theorem cellsT_at : ∀ (l : VL) (i : Nat) (x : Int × ByteArray), l[i]? = some x → (cellsT l)[i * 2]? = some (.int .i64 x.1) ∧ (cellsT l)[i * 2 + 1]? = some (.string x.2)
 | [], i, x, h => by simp at h
 | y :: r, 0, x, h => by
  simp at h
  subst h
  simp [cellsT, atCells]
 | y :: r, i + 1, x, h => by
  have ih := cellsT_at r i x (by simpa using h)
  have e : cellsT (y :: r) = .int .i64 y.1 :: .string y.2 :: cellsT r := by simp [cellsT, atCells]
  rw [e, show (i + 1) * 2 = i * 2 + 2 by omega, show i * 2 + 2 + 1 = i * 2 + 1 + 2 by omega]
  simpa using ih
theorem atCells_one (x : Int × ByteArray) : ∀ u ∈ atCells x, u.oneCell' := by
 intro u hu
 simp only [atCells, List.mem_cons, List.not_mem_nil, or_false] at hu
 rcases hu with rfl | rfl <;> simp [Value.oneCell']
abbrev atV (k : Int) (v : ByteArray) : Value := .agg #[.int .i64 k, .string v]
theorem info_at : (Tryz.prog.info? 174).map (fun i => (i.zero, i.size, i.bytes)) = some (some (atV 0 ⟨#[]⟩), 2, 24) := by kernel_rfl
def AtRow (w : World) (lo : Nat) (v : Value) (l : VL) : Prop := w.ownsRow lo 174 2 v l.length (cellsT l)
namespace AtRow
variable {w w' : World} {lo lo' : Nat} {v : Value} {l : VL}
theorem nil (w : World) (lo : Nat) : AtRow w lo (.slice none 0 0) [] := World.ownsRow_nil _ _ _ _
theorem lower (h : AtRow w lo v l) (hb : lo' ≤ lo) : AtRow w lo' v l := row_lower h hb
theorem below (h : AtRow w lo v l) (k : Below w.heap.size w w') : AtRow w' lo v l := row_fr h (Fr.of_below k : Fr S0 w w') (fun g _ e => e)
theorem view (h : AtRow w lo v l) : ∃ (A : Option Addr) (cap : Nat), v = .slice A l.length cap ∧ l.length ≤ cap ∧
  (0 < l.length → ∃ g, A = some ⟨g, 0, none⟩ ∧ lo ≤ g ∧ g < w.heap.size ∧ ∀ i x, l[i]? = some x → w.cell? ⟨g, i * 2, none⟩ = some (.int .i64 x.1) ∧ w.cell? ⟨g, i * 2 + 1, none⟩ = some (.string x.2)) := by
 obtain ⟨A, cap, hv, hle, _, _, _, hc⟩ := row_view h
 refine ⟨A, cap, hv, hle, fun h0 => ?_⟩
 obtain ⟨g, hA, h1, h2, h3⟩ := hc h0
 exact ⟨g, hA, h1, h2, fun i x hi => ⟨h3 _ _ (cellsT_at l i x hi).1, h3 _ _ (cellsT_at l i x hi).2⟩⟩
end AtRow
structure RLog (w : World) (p : Nat) (v : Value) (l : VL) (s : LogSt) : Prop where
 blk : Blk w p 172 #[.bool true, .int .i64 s.base, v]
 row : AtRow w 0 v l
 perm : l.Perm s.L
 good : LGood s
namespace RLog
variable {w w' : World} {p : Nat} {v : Value} {l : VL} {s : LogSt}
theorem below (h : RLog w p v l s) (k : Below w.heap.size w w') : RLog w' p v l s := ⟨h.blk.of_block (k.block _ h.blk.lt), h.row.below k, h.perm, h.good⟩
theorem ne (h : RLog w p v l s) : ∀ g, v.ownBlock = some g → g ≠ p := row_ne_blk h.row h.blk (by decide)
theorem mem (h : RLog w p v l s) {x : Int × ByteArray} (hx : x ∈ l) : get x.1 s.L = some x.2 := get_of_mem h.good.srt (h.perm.mem_iff.1 hx)
theorem len (h : RLog w p v l s) : l.length ≤ 4096 := h.perm.length_eq ▸ h.good.len
theorem c0 (h : RLog w p v l s) : w.cell? ⟨p, 0, none⟩ = some (.bool true) := h.blk.cell rfl
theorem c1 (h : RLog w p v l s) : w.cell? ⟨p, 1, none⟩ = some (.int .i64 s.base) := h.blk.cell rfl
theorem c2 (h : RLog w p v l s) : w.cell? ⟨p, 2, none⟩ = some v := h.blk.cell rfl
end RLog
theorem rlnew_any (w : World) : Calls Tryz.prog 101 #[] w fun e w' => ∃ p, e = .returned (.pointer (some ⟨p, 0, none⟩)) ∧ RLog w' p (.slice none 0 0) [] newLog ∧ w.heap.size ≤ p ∧ Below w.heap.size w w' := by
 go_enter Tryz.func101, Tryz.ntmps101
 go_wp2_with fail
 go_returns
 exact ⟨w.heap.size, rfl, ⟨Blk.new _ _ _, AtRow.nil _ _, List.Perm.nil, LGood.new⟩, Nat.le_refl _, box_below _ _⟩
theorem rlvalid (p : Nat) (w : World) (h : w.cell? ⟨p, 0, none⟩ = some (.bool true)) :
  Calls Tryz.prog 127 #[.pointer (some ⟨p, 0, none⟩)] w fun e w' => e = .returned (.bool true) ∧ w = w' := by
 go_enter Tryz.func127, Tryz.ntmps127
 go_wp2
 go_returns
 exact ⟨rfl, rfl⟩
section
variable {w : World} {p : Nat} {v : Value} {l : VL} {s : LogSt}
theorem rlbase_any (h : RLog w p v l s) : Calls Tryz.prog 111 #[.pointer (some ⟨p, 0, none⟩)] w fun e w' => e = .returned (.int .i64 s.base) ∧ w = w' := by
 have c0 := h.c0
 have c1 := h.c1
 clear h
 go_enter Tryz.func111, Tryz.ntmps111
 go_wp2_with (go_at_call 127; refine (rlvalid p _ c0).mono ?_; rintro e w' ⟨rfl, rfl⟩)
 go_returns
 exact ⟨rfl, rfl⟩
set_option maxRecDepth 100000 in
set_option maxHeartbeats 1000000 in
theorem rlget_any (k : Int) (h : RLog w p v l s) : Calls Tryz.prog 128 #[.pointer (some ⟨p, 0, none⟩), .int .i64 k] w fun e w' => e = .returned (getV k s.L) ∧ w = w' := by
 have c0 := h.c0
 have c2 := h.c2
 have hl := h.len
 have H := Lib.hid h
 obtain ⟨A, cap, rfl, hcap, hc⟩ := h.row.view
 have HC := Lib.hid hc
 clear h hc
 go_enter Tryz.func128, Tryz.ntmps128
 go_wp2_with (go_at_call 127; refine (rlvalid p _ c0).mono ?_; rintro e w' ⟨rfl, rfl⟩)
 go_loopw [6] (fun c wr => ∃ i : Nat, i ≤ l.length ∧ c = .int .i64 (i : Int) ∧ wr = w ∧ ∀ x ∈ l.take i, x.1 ≠ k) (fun c _ => l.length - (intOf c).toNat)
 case atStart => exact ⟨0, Nat.zero_le _, rfl, rfl, by simp⟩
 case round =>
  obtain ⟨i, hi, rfl, rfl, hne⟩ := hrel
  have HNE := Lib.hid hne
  clear hne
  by_cases hlt : i < l.length
  ·obtain ⟨g, rfl, _, hg, hcells⟩ := HC.out (by omega)
   obtain ⟨x, hx⟩ : ∃ x, l[i]? = some x := ⟨_, List.getElem?_eq_getElem hlt⟩
   obtain ⟨m1, m2⟩ := hcells i x hx
   have HX := Lib.hid hx
   clear hcells hx
   by_cases hk : x.1 = k
   ·have hk' : (x.1 == k) = true := by simpa using hk
    go_wp2_with fail
    go_returns
    have hm : x ∈ l := List.mem_of_getElem? HX.out
    have := H.out.mem hm
    rw [hk] at this
    unfold getV
    rw [this]
    exact ⟨rfl, rfl⟩
   ·have hk' : (x.1 == k) = false := by simpa using hk
    go_wp2_with fail
    go_roundw
    case rel =>
     refine ⟨i + 1, by omega, by go_num, trivial, fun y hy => ?_⟩
     rw [List.take_add_one, HX.out] at hy
     rcases List.mem_append.1 hy with hy | hy
     ·exact HNE.out y hy
     ·simp at hy
      rw [hy]; exact hk
    case measure => simp [intOf]; omega
  ·have hget : get k s.L = none := get_none.2 fun y hy => by
    have := HNE.out y (by rw [List.take_of_length_le (by omega)]; exact H.out.perm.mem_iff.2 hy)
    exact this
   go_wp2_with fail
   go_returns
   unfold getV
   rw [hget]
   exact ⟨rfl, rfl⟩
theorem rlhas_any (k : Int) (h : RLog w p v l s) : Calls Tryz.prog 181 #[.pointer (some ⟨p, 0, none⟩), .int .i64 k] w fun e w' => e = .returned (.bool (get k s.L).isSome) ∧ w = w' := by
 have HG := Lib.hid (rlget_any k h)
 clear h
 unfold getV at HG
 go_enter Tryz.func181, Tryz.ntmps181
 go_wp2_with (go_at_call 128; refine HG.out.mono ?_; rintro e w' ⟨rfl, rfl⟩)
 go_returns
 exact ⟨rfl, rfl⟩
set_option maxRecDepth 100000 in
set_option maxHeartbeats 1000000 in
theorem rlupto_any (h : RLog w p v l s) : Calls Tryz.prog 112 #[.pointer (some ⟨p, 0, none⟩)] w fun e w' => e = .returned (.int .i64 s.upto) ∧ w = w' := by
 have c0 := h.c0
 have c1 := h.c1
 have HH := Lib.hid (fun k => rlhas_any k h)
 have h1 := h.good.b0
 have h2 := h.good.bu
 have h3 := h.good.ut
 have h4 := h.good.t1
 have HA := Lib.hid h.good.has
 have HGp := Lib.hid h.good.gap
 clear h
 go_enter Tryz.func112, Tryz.ntmps112
 go_wp2_with (go_at_call 127; refine (rlvalid p _ c0).mono ?_; rintro e w' ⟨rfl, rfl⟩)
 go_loopw [3] (fun c wr => ∃ i : Int, s.base ≤ i ∧ i ≤ s.upto ∧ c = .int .i64 i ∧ wr = w) (fun c _ => (s.upto - intOf c).toNat)
 case atStart => exact ⟨s.base, Int.le_refl _, h2, rfl, rfl⟩
 case round =>
  obtain ⟨i, hi1, hi2, rfl, rfl⟩ := hrel
  by_cases hlt : i < s.upto
  ·have hg : (get i s.L).isSome = true := HA.out i hi1 hlt
   go_wp2_with (go_at_call 181; refine (HH.out i).mono ?_; rintro e w' ⟨rfl, rfl⟩)
   go_roundw
   case rel => exact ⟨i + 1, by omega, by omega, by go_num, trivial⟩
   case measure => simp [intOf]; omega
  ·obtain rfl : i = s.upto := by omega
   have hg : (get s.upto s.L).isSome = false := by rw [HGp.out]; rfl
   go_wp2_with (go_at_call 181; refine (HH.out s.upto).mono ?_; rintro e w' ⟨rfl, rfl⟩)
   go_returns
   exact ⟨rfl, rfl⟩
theorem rlcheck_any (u : Int) (h : RLog w p v l s) : Calls Tryz.prog 132 #[.pointer (some ⟨p, 0, none⟩), .int .i64 u] w fun e w' => e = .returned (.int .i64 (if u < 0 ∨ 4096 < u then 2 else 0)) ∧ w = w' := by
 have c0 := h.c0
 clear h
 by_cases h1 : u < 0
 ·rw [if_pos (Or.inl h1)]
  go_enter Tryz.func132, Tryz.ntmps132
  go_wp2_with (go_at_call 127; refine (rlvalid p _ c0).mono ?_; rintro e w' ⟨rfl, rfl⟩)
  go_returns
  exact ⟨rfl, rfl⟩
 ·have h1' : decide (u < 0) = false := by simpa using h1
  by_cases h2 : 4096 < u
  ·have h2' : decide (u > 4096) = true := by simpa using h2
   rw [if_pos (Or.inr h2)]
   go_enter Tryz.func132, Tryz.ntmps132
   go_wp2_with (go_at_call 127; refine (rlvalid p _ c0).mono ?_; rintro e w' ⟨rfl, rfl⟩)
   go_returns
   exact ⟨rfl, rfl⟩
  ·have h2' : decide (u > 4096) = false := by simpa using h2
   rw [if_neg (by omega)]
   go_enter Tryz.func132, Tryz.ntmps132
   go_wp2_with (go_at_call 127; refine (rlvalid p _ c0).mono ?_; rintro e w' ⟨rfl, rfl⟩)
   go_returns
   exact ⟨rfl, rfl⟩
end
end Go.Proofs.YtlfikhblmbidmaaGreatDoor
namespace Go.Proofs.YtlfikhblmbidmaaGreatDoor
open Go.RowKit Go.Maps
def cutT (u : Int) (l : VL) : VL := l.filter fun x => !decide (x.1 < u)
def rlF (p : Nat) (v : Value) (i : Nat) : Prop := i = p ∨ v.ownBlock = some i
structure RLStep (w : World) (p : Nat) (v : Value) (w' : World) (v' : Value) (l' : VL) (s' : LogSt) : Prop where
 fr : Fr (rlF p v) w w'
 own : ∀ i, rlF p v' i → rlF p v i ∨ w.heap.size ≤ i
 at_ : RLog w' p v' l' s'
section
variable {w : World} {p : Nat} {v : Value} {l : VL} {s : LogSt}
theorem RLog.lt (h : RLog w p v l s) {i : Nat} (hi : rlF p v i) : i < w.heap.size := by
 rcases hi with rfl | e
 ·exact h.blk.lt
 ·exact (h.row.lt i e).2
theorem RLStep.refl (h : RLog w p v l s) : RLStep w p v w v l s := ⟨Fr.refl _ _, fun i e => .inl e, h⟩
theorem RLStep.trans {w' w'' : World} {v' v'' : Value} {l' l'' : VL} {s' s'' : LogSt} (h : RLStep w p v w' v' l' s') (k : RLStep w' p v' w'' v'' l'' s'') : RLStep w p v w'' v'' l'' s'' := by
 refine ⟨h.fr.trans' k.fr (fun i hi e => ?_), fun i e => ?_, k.at_⟩
 ·rcases h.own i e with e | e
  ·exact e
  ·omega
 ·rcases k.own i e with e | e
  ·exact h.own i e
  ·exact .inr (Nat.le_trans h.fr.size e)
theorem RLStep.below {w' : World} (h : RLog w p v l s) (k : Below w.heap.size w w') : RLStep w p v w' v l s := ⟨Fr.of_below k, fun i e => .inl e, h.below k⟩
set_option maxRecDepth 100000 in
set_option maxHeartbeats 2000000 in
theorem rlcut_any (u : Int) (h : RLog w p v l s) : Calls Tryz.prog 133 #[.pointer (some ⟨p, 0, none⟩), .int .i64 u] w fun e w' => e = .returned (.tuple #[]) ∧ ∃ v', Blk w' p 172 #[.bool true, .int .i64 u, v'] ∧ AtRow w' w.heap.size v' (cutT u l) ∧ Fr (S1 p) w w' := by
 have c2 := h.c2
 have hl := h.len
 have H := Lib.hid h
 obtain ⟨A, cap, rfl, hcap, hc⟩ := h.row.view
 have HC := Lib.hid hc
 obtain ⟨i0, hi, hz0, hz1, hz2⟩ := info_parts info_at
 have HI := Lib.hid hi
 have HZ0 := Lib.hid hz0
 have HZ1 := Lib.hid hz1
 have HZ2 := Lib.hid hz2
 clear hi hz0 hz1 hz2 h hc
 go_enter Tryz.func133, Tryz.ntmps133
 go_wp2_with fail
 go_loopw [4, 5] (fun v4 c wr => ∃ i : Nat, i ≤ l.length ∧ c = .int .i64 (i : Int) ∧ AtRow wr w.heap.size v4 (cutT u (l.take i)) ∧ Below w.heap.size w wr) (fun _ c _ => l.length - (intOf c).toNat)
 case atStart => exact ⟨0, by omega, rfl, AtRow.nil _ _, Below.refl _ _⟩
 case round =>
  obtain ⟨i, hi, rfl, hrow, hB⟩ := hrel
  have HROW := Lib.hid hrow
  have d2 := bcell hB c2
  clear hrow
  by_cases hlt : i < l.length
  ·obtain ⟨g, rfl, _, hg, hcells⟩ := HC.out (by omega)
   obtain ⟨⟨x, xv⟩, hs⟩ : ∃ q, l[i]? = some q := ⟨_, List.getElem?_eq_getElem hlt⟩
   obtain ⟨m1, m2⟩ := hcells i _ hs
   have z1 := bcell hB m1
   have z2 := bcell hB m2
   have HSn := Lib.hid (take_snoc hs)
   have hnl : (cutT u (l.take i)).length ≤ i := Nat.le_trans (List.length_filter_le _ _) (List.length_take_le i l)
   clear m1 m2 hcells hs
   by_cases hx : x ≥ u
   ·have hx' : decide (x ≥ u) = true := by simpa using hx
    have HL : Hid (cutT u (l.take (i + 1)) = cutT u (l.take i) ++ [(x, xv)]) := by
     rw [Hid, HSn.out]; simp [cutT]; omega
    go_wp2_with (at_builtin; go_must (refine wpList_app rfl _ _ 170 rfl w.heap.size 174 i0 (atV 0 ⟨#[]⟩) 2 24 Tryz.underlying170 HI.out HZ0.out HZ1.out HZ2.out rfl (by decide) _ _ _ rfl (World.ownsRow.alloc HROW.out _) (some ⟨wr.heap.size, 0, none⟩) 1 1 (atCells (x, xv)) rfl (by simp) (by omega) (reads_new _ _ (atCells (x, xv)) 1 2 rfl) (atCells_one _) (by unfold maxLen; omega) (by omega) (by have := hB.size; simp; omega) ?_))
    intro v' w4 hown hgrow _
    have hne1 : ∀ k', some k' = _ → w.heap.size ≤ k' := fun k' hk' => (HROW.out.lt k' hk'.symm).1
    have hown' : AtRow w4 w.heap.size v' (cutT u (l.take (i + 1))) := by
     rw [HL.out]
     unfold AtRow
     rw [cellsT_snoc, List.length_append]
     exact hown
    have hB4 := (hB.alloc hB.size _).grown hgrow (by have := hB.size; simp; omega) (fun k' ek => by have := hne1 k' ek.symm; omega)
    go_wp2_with fail
    go_roundw
    case rel => exact ⟨i + 1, by omega, by go_num, hown', hB4⟩
    case measure => simp [intOf]; omega
   ·have hx' : decide (x ≥ u) = false := by simpa using hx
    have HL : Hid (cutT u (l.take (i + 1)) = cutT u (l.take i)) := by
     rw [Hid, HSn.out]; simp [cutT]; omega
    clear hx
    go_wp2_with fail
    go_roundw
    case rel => exact ⟨i + 1, by omega, by go_num, by rw [HL.out]; exact HROW.out, hB⟩
    case measure => simp [intOf]; omega
  ·have e : i = l.length := by omega
   have hr := HROW.out
   rw [e, List.take_length] at hr
   obtain ⟨A4, c4, hv4, _⟩ := hr.view
   have HV4 := Lib.hid hv4
   have HR := Lib.hid hr
   subst hv4
   have K := Lib.hid (H.out.blk.of_block (hB.block _ H.out.blk.lt))
   have g1 := K.out.frozen 1
   have g2 := K.out.frozen 2
   have q1 := K.out.cell (i := 1) rfl
   have q2 := K.out.cell (i := 2) rfl
   subst e
   clear hr
   go_wp2_with fail
   go_returns
   have fs := (fr_set wr p 2 (.slice A4 (cutT u l).length c4)).trans (fr_set _ p 1 (.int .i64 u))
   refine ⟨rfl, _, (K.out.set 2 _).set 1 _, row_fr HR.out fs (fun g hg e => ?_), (Fr.of_below hB).trans fs⟩
   have e : g = p := e
   have h1 := (HR.out.lt g hg).1
   have h2 := H.out.blk.lt
   omega
theorem RLog.of_cut {w' : World} {v' : Value} {u : Int} (h : RLog w p v l s) (hb : Blk w' p 172 #[.bool true, .int .i64 u, v']) (hr : AtRow w' w.heap.size v' (cutT u l)) (hg : LGood (lcut s u)) (hf : Fr (S1 p) w w') : RLStep w p v w' v' (cutT u l) (lcut s u) :=
 ⟨hf.mono (fun i e => .inl e), fun i e => e.elim (fun e => .inl (.inl e)) (fun e => .inr (hr.lt i e).1), ⟨hb, hr.lower (Nat.zero_le _), h.perm.filter _, hg⟩⟩
theorem rljmp_any (u : Int) (h : RLog w p v l s) : Calls Tryz.prog 179 #[.pointer (some ⟨p, 0, none⟩), .int .i64 u] w fun e w' => e = .returned (.int .i64 (ljmpE s u)) ∧ ∃ v' l', RLStep w p v w' v' l' (ljmpS s u) := by
 have HC := Lib.hid (rlcheck_any u h)
 have HU := Lib.hid (rlupto_any h)
 have H := Lib.hid h
 have HGJ := Lib.hid (h.good.jump u)
 have HX := Lib.hid (rlcut_any u h)
 clear h
 by_cases h1 : u < 0 ∨ 4096 < u
 ·have E : ljmpE s u = 2 := by unfold ljmpE; rw [if_pos h1]
  have ES : ljmpS s u = s := by unfold ljmpS; rw [E]; rfl
  rw [E, ES]
  rw [if_pos h1] at HC
  clear E ES h1 HX
  go_enter Tryz.func179, Tryz.ntmps179
  go_wp2_with (go_at_call 132; refine HC.out.mono ?_; rintro e w' ⟨rfl, rfl⟩)
  go_returns
  exact ⟨rfl, v, l, RLStep.refl H.out⟩
 rw [if_neg h1] at HC
 by_cases h2 : u < s.upto
 ·have E : ljmpE s u = 8 := by unfold ljmpE; rw [if_neg h1, if_pos h2]
  have ES : ljmpS s u = s := by unfold ljmpS; rw [E]; rfl
  rw [E, ES]
  have h2' : decide (u < s.upto) = true := by simpa using h2
  clear E ES h1 HX h2
  go_enter Tryz.func179, Tryz.ntmps179
  go_wp2_with (first
   | (go_at_call 132; refine HC.out.mono ?_; rintro e w' ⟨rfl, rfl⟩)
   | (go_at_call 112; refine HU.out.mono ?_; rintro e w' ⟨rfl, rfl⟩))
  go_returns
  exact ⟨rfl, v, l, RLStep.refl H.out⟩
 ·have E : ljmpE s u = 0 := by unfold ljmpE; rw [if_neg h1, if_neg h2]
  have ES : ljmpS s u = lcut s u := by unfold ljmpS; rw [E]; rfl
  rw [ES] at HGJ
  rw [E, ES]
  have h2' : decide (u < s.upto) = false := by simpa using h2
  clear E ES h1 h2
  go_enter Tryz.func179, Tryz.ntmps179
  go_wp2_with (first
   | (go_at_call 132; refine HC.out.mono ?_; rintro e w' ⟨rfl, rfl⟩)
   | (go_at_call 112; refine HU.out.mono ?_; rintro e w' ⟨rfl, rfl⟩)
   | (go_at_call 133; refine HX.out.mono ?_; rintro e w2 ⟨rfl, v2, hb2, hr2, hf2⟩; have S2 := Lib.hid (H.out.of_cut hb2 hr2 HGJ.out hf2); clear hb2 hr2 hf2))
  go_returns
  exact ⟨rfl, v2, _, S2.out⟩
theorem rlfor_any (u : Int) (h : RLog w p v l s) : Calls Tryz.prog 47 #[.pointer (some ⟨p, 0, none⟩), .int .i64 u] w fun e w' => e = .returned (.int .i64 (lforE s u)) ∧ ∃ v' l', RLStep w p v w' v' l' (lforS s u) := by
 have HC := Lib.hid (rlcheck_any u h)
 have HU := Lib.hid (rlupto_any h)
 have H := Lib.hid h
 have c1 := h.c1
 have HGJ := Lib.hid (h.good.forg u)
 have HX := Lib.hid (rlcut_any u h)
 clear h
 by_cases h1 : u < 0 ∨ 4096 < u
 ·have E : lforE s u = 2 := by unfold lforE; rw [if_pos h1]
  have ES : lforS s u = s := by unfold lforS; rw [E]; exact if_neg (fun e => absurd e.1 (by decide))
  rw [E, ES]
  rw [if_pos h1] at HC
  clear E ES h1 HX
  go_enter Tryz.func47, Tryz.ntmps47
  go_wp2_with (go_at_call 132; refine HC.out.mono ?_; rintro e w' ⟨rfl, rfl⟩)
  go_returns
  exact ⟨rfl, v, l, RLStep.refl H.out⟩
 rw [if_neg h1] at HC
 by_cases h2 : s.upto < u
 ·have E : lforE s u = 3 := by unfold lforE; rw [if_neg h1, if_pos h2]
  have ES : lforS s u = s := by unfold lforS; rw [E]; exact if_neg (fun e => absurd e.1 (by decide))
  rw [E, ES]
  have h2' : decide (u > s.upto) = true := by simpa using h2
  clear E ES h1 HX h2
  go_enter Tryz.func47, Tryz.ntmps47
  go_wp2_with (first
   | (go_at_call 132; refine HC.out.mono ?_; rintro e w' ⟨rfl, rfl⟩)
   | (go_at_call 112; refine HU.out.mono ?_; rintro e w' ⟨rfl, rfl⟩))
  go_returns
  exact ⟨rfl, v, l, RLStep.refl H.out⟩
 have h2' : decide (u > s.upto) = false := by simpa using h2
 have E : lforE s u = 0 := by unfold lforE; rw [if_neg h1, if_neg h2]
 by_cases h3 : s.base < u
 ·have ES : lforS s u = lcut s u := by unfold lforS; rw [E]; exact if_pos ⟨rfl, h3⟩
  rw [ES] at HGJ
  rw [E, ES]
  have h3' : decide (u > s.base) = true := by simpa using h3
  clear E ES h1 h2 h3
  go_enter Tryz.func47, Tryz.ntmps47
  go_wp2_with (first
   | (go_at_call 132; refine HC.out.mono ?_; rintro e w' ⟨rfl, rfl⟩)
   | (go_at_call 112; refine HU.out.mono ?_; rintro e w' ⟨rfl, rfl⟩)
   | (go_at_call 133; refine HX.out.mono ?_; rintro e w2 ⟨rfl, v2, hb2, hr2, hf2⟩; have S2 := Lib.hid (H.out.of_cut hb2 hr2 HGJ.out hf2); clear hb2 hr2 hf2))
  go_returns
  exact ⟨rfl, v2, _, S2.out⟩
 ·have ES : lforS s u = s := by unfold lforS; exact if_neg (fun e => h3 e.2)
  rw [E, ES]
  have h3' : decide (u > s.base) = false := by simpa using h3
  clear E ES h1 h2 h3
  go_enter Tryz.func47, Tryz.ntmps47
  go_wp2_with (first
   | (go_at_call 132; refine HC.out.mono ?_; rintro e w' ⟨rfl, rfl⟩)
   | (go_at_call 112; refine HU.out.mono ?_; rintro e w' ⟨rfl, rfl⟩))
  go_returns
  exact ⟨rfl, v, l, RLStep.refl H.out⟩
theorem put_same {k : Int} {x : ByteArray} {L : VL} (h : Srt L) (hg : get k L = some x) : put k x L = L :=
 srt_ext (srt_put h) h fun q => by
  rw [mem_put]
  constructor
  ·rintro (rfl | e)
   ·exact get_mem hg
   ·exact e.1
  ·intro e
   by_cases hk : q.1 = k
   ·have := get_of_mem h e
    rw [hk, hg] at this
    obtain ⟨q1, q2⟩ := q
    simp only at hk this
    subst hk
    cases this
    exact .inl rfl
   ·exact .inr ⟨e, hk⟩
theorem srt_nodup {L : VL} (h : Srt L) : L.Nodup := h.imp fun {a b} hab e => by subst e; omega
theorem put_perm {k : Int} {x : ByteArray} {L l : VL} (h : Srt L) (hp : l.Perm L) (hg : get k L = none) : (l ++ [(k, x)]).Perm (put k x L) := by
 have h1 : (l ++ [(k, x)]).Nodup := by
  rw [List.nodup_append]
  refine ⟨hp.nodup_iff.2 (srt_nodup h), by simp, fun a ha b hb e => ?_⟩
  simp at hb
  subst hb
  subst e
  exact get_none.1 hg _ (hp.mem_iff.1 ha) rfl
 refine (List.perm_ext_iff_of_nodup h1 (srt_nodup (srt_put h))).2 fun q => ?_
 rw [mem_put, List.mem_append, hp.mem_iff]
 constructor
 ·rintro (e | e)
  ·exact .inr ⟨e, fun hk => get_none.1 hg _ e hk⟩
  ·exact .inl (by simpa using e)
 ·rintro (e | e)
  ·exact .inr (by simp [e])
  ·exact .inl e.1
theorem lputS_ok {k : Int} {x : ByteArray} (h : lputE s k x = 0) : (lputS s k x).base = s.base ∧ (lputS s k x).L = put k x s.L := by
 unfold lputS
 rw [if_pos h]
 exact ⟨rfl, rfl⟩
theorem lputS_no {k : Int} {x : ByteArray} (h : lputE s k x ≠ 0) : lputS s k x = s := by
 unfold lputS
 rw [if_neg h]
theorem bldAt (k : Int) (x : ByteArray) (w : World) : (Instr.build 174 #[(0, .int .i64 k), (1, .string x)]).run Tryz.prog w = .ok (atV k x) w := run_build w 174 _ _ (by kernel_rfl)
set_option maxRecDepth 100000 in
set_option maxHeartbeats 2000000 in
theorem rlput_any (k : Int) (x : ByteArray) (h : RLog w p v l s) : Calls Tryz.prog 43 #[.pointer (some ⟨p, 0, none⟩), .int .i64 k, .string x] w fun e w' => e = .returned (.int .i64 (lputE s k x)) ∧ ∃ v' l', RLStep w p v w' v' l' (lputS s k x) := by
 have hno : ∀ c : Int, c ≠ 0 → lputE s k x = c → Calls Tryz.prog 43 #[.pointer (some ⟨p, 0, none⟩), .int .i64 k, .string x] w (fun e w' => e = .returned (.int .i64 c) ∧ w = w') →
   Calls Tryz.prog 43 #[.pointer (some ⟨p, 0, none⟩), .int .i64 k, .string x] w fun e w' => e = .returned (.int .i64 (lputE s k x)) ∧ ∃ v' l', RLStep w p v w' v' l' (lputS s k x) := fun c hc he hC => by
  refine hC.mono ?_
  rintro e w' ⟨rfl, rfl⟩
  rw [lputS_no (by rw [he]; exact hc), he]
  exact ⟨rfl, v, l, RLStep.refl h⟩
 have c0 := h.c0
 have c1 := h.c1
 have c2 := h.c2
 have hl := h.len
 have HG := Lib.hid (rlget_any k h)
 unfold getV at HG
 have H := Lib.hid h
 have HGP := Lib.hid (h.good.put k x)
 by_cases h1 : k < 0
 ·refine hno 2 (by decide) (by unfold lputE; rw [if_pos (.inl h1)]) ?_
  clear hno h
  go_enter Tryz.func43, Tryz.ntmps43
  go_wp2_with (go_at_call 127; refine (rlvalid p _ c0).mono ?_; rintro e w' ⟨rfl, rfl⟩)
  go_returns
  exact ⟨rfl, rfl⟩
 have h1' : decide (k < 0) = false := by simpa using h1
 by_cases h2 : 4096 ≤ k
 ·have h2' : decide (k ≥ 4096) = true := by simpa using h2
  refine hno 2 (by decide) (by unfold lputE; rw [if_pos (.inr h2)]) ?_
  clear hno h h1
  go_enter Tryz.func43, Tryz.ntmps43
  go_wp2_with (go_at_call 127; refine (rlvalid p _ c0).mono ?_; rintro e w' ⟨rfl, rfl⟩)
  go_returns
  exact ⟨rfl, rfl⟩
 have h2' : decide (k ≥ 4096) = false := by simpa using h2
 have E1 : ¬ (k < 0 ∨ 4096 ≤ k) := by omega
 by_cases h3 : 65536 < x.size
 ·have h3' : decide ((x.size : Int) > 65536) = true := decide_eq_true (by omega)
  refine hno 11 (by decide) (by unfold lputE; rw [if_neg E1, if_pos h3]) ?_
  clear hno h h1 h2 E1 h3
  go_enter Tryz.func43, Tryz.ntmps43
  go_wp2_with (go_at_call 127; refine (rlvalid p _ c0).mono ?_; rintro e w' ⟨rfl, rfl⟩)
  go_returns
  exact ⟨rfl, rfl⟩
 have h3' : decide ((x.size : Int) > 65536) = false := decide_eq_false (by omega)
 by_cases h4 : k < s.base
 ·have h4' : decide (k < s.base) = true := decide_eq_true h4
  refine hno 8 (by decide) (by unfold lputE; rw [if_neg E1, if_neg h3, if_pos h4]) ?_
  clear hno h h1 h2 E1 h3 h4
  go_enter Tryz.func43, Tryz.ntmps43
  go_wp2_with (go_at_call 127; refine (rlvalid p _ c0).mono ?_; rintro e w' ⟨rfl, rfl⟩)
  go_returns
  exact ⟨rfl, rfl⟩
 have h4' : decide (k < s.base) = false := decide_eq_false h4
 cases hg : get k s.L with
 | some y =>
  rw [hg] at HG
  by_cases h5 : y = x
  ·subst h5
   have E : lputE s k y = 0 := lputE_zero.2 ⟨by omega, by omega, by omega, by omega, fun _ => hg⟩
   obtain ⟨e1, e2⟩ := lputS_ok E
   rw [put_same h.good.srt hg] at e2
   have HR : Hid (RLog w p v l (lputS s k y)) := ⟨by rw [e1]; exact h.blk, h.row, by rw [e2]; exact h.perm, HGP.out⟩
   rw [E]
   clear hno h h1 h2 E1 h3 h4 E e1 e2
   go_enter Tryz.func43, Tryz.ntmps43
   go_wp2_with (first
    | (go_at_call 127; refine (rlvalid p _ c0).mono ?_; rintro e w' ⟨rfl, rfl⟩)
    | (go_at_call 128; refine HG.out.mono ?_; rintro e w' ⟨rfl, rfl⟩))
   go_returns
   exact ⟨rfl, v, l, RLStep.refl HR.out⟩
  ·have h5' : (y.toList == x.toList) = false := by
    rw [str_eq]; simpa using h5
   refine hno 9 (by decide) (by unfold lputE; rw [if_neg E1, if_neg h3, if_neg h4, if_pos ⟨by rw [hg]; rfl, by rw [hg]; intro e; exact h5 (Option.some.inj e)⟩]) ?_
   clear hno h h1 h2 E1 h3 h4
   go_enter Tryz.func43, Tryz.ntmps43
   go_wp2_with (first
    | (go_at_call 127; refine (rlvalid p _ c0).mono ?_; rintro e w' ⟨rfl, rfl⟩)
    | (go_at_call 128; refine HG.out.mono ?_; rintro e w' ⟨rfl, rfl⟩))
   go_returns
   exact ⟨rfl, rfl⟩
 | none =>
  rw [hg] at HG
  have E : lputE s k x = 0 := lputE_zero.2 ⟨by omega, by omega, by omega, by omega, fun e => by rw [hg] at e; cases e⟩
  obtain ⟨e1, e2⟩ := lputS_ok E
  have HPM := Lib.hid (put_perm (x := x) h.good.srt h.perm hg)
  rw [← e2] at HPM
  have HE1 := Lib.hid e1
  have hB3 := fun (k : Int) (x : ByteArray) w => bldAt k x w
  obtain ⟨i0, hi, hz0, hz1, hz2⟩ := info_parts info_at
  have HI := Lib.hid hi
  have HZ0 := Lib.hid hz0
  have HZ1 := Lib.hid hz1
  have HZ2 := Lib.hid hz2
  have HROW := Lib.hid h.row
  obtain ⟨A, cap, rfl, hcap, _⟩ := h.row.view
  rw [E]
  clear hno h h1 h2 E1 h3 h4 E e1 e2 hi hz0 hz1 hz2 hg
  go_enter Tryz.func43, Tryz.ntmps43
  go_wp2_with (first
   | (go_at_call 127; refine (rlvalid p _ c0).mono ?_; rintro e w' ⟨rfl, rfl⟩)
   | (go_at_call 128; refine HG.out.mono ?_; rintro e w' ⟨rfl, rfl⟩)
   | (at_builtin; go_loud (refine wpList_append_own_at _ rfl _ _ 170 rfl 0 174 i0 (atV 0 ⟨#[]⟩) 2 24 Tryz.underlying170 HI.out HZ0.out HZ1.out HZ2.out rfl (by decide) _ _ _ rfl (World.ownsRow.alloc HROW.out _) ⟨w.heap.size, 0, none⟩ 1 1 (atCells (k, x)) rfl rfl (fun j u hu => cell_two_new w (.int .i64 k) (.string x) 174 j u hu) (atCells_one _) (by unfold maxLen; omega) (by omega) (Nat.zero_le _) ?_); intro v' w4 hown hgrow _ hoa; have HOA := Lib.hid hoa; obtain ⟨A4, c4, rfl⟩ := row_len hown; have HO := Lib.hid (show AtRow w4 0 (.slice A4 (l.length + 1) c4) (l ++ [(k, x)]) by unfold AtRow; rw [cellsT_snoc, List.length_append]; exact hown); have HF := Lib.hid (show Fr (fun i => (Value.slice A l.length cap).ownBlock = some i) w w4 from ((Fr.refl _ w).alloc _).trans' (Fr.of_grown (S := fun i => (Value.slice A l.length cap).ownBlock = some i) hgrow (fun i e => e)) (fun i _ e => e)); have K := Lib.hid (H.out.blk.fr HF.out (fun e => H.out.ne p e rfl)); have HGW := Lib.hid hgrow; have g2 := K.out.frozen 2; have q2 := K.out.cell (i := 2) rfl; clear hown hgrow hoa))
  go_returns
  have fs := fr_set w4 p 2 (.slice A4 (l.length + 1) c4)
  refine ⟨rfl, _, _, (HF.out.mono (fun i e => .inr e)).trans (fs.mono (fun i e => .inl e)), ?_, ⟨?_, row_fr HO.out fs (fun g hg e => ?_), HPM.out, HGP.out⟩⟩
  ·rintro i (e | e)
   ·exact .inl (.inl e)
   ·have e := e
    rcases HOA.out with h | h
    ·exact .inl (.inr (h ▸ e))
    ·rw [h] at e
     cases e
     exact .inr (by simp)
  ·rw [HE1.out]
   exact K.out.set 2 _
  ·have e : g = p := e
   subst e
   exact row_ne_blk HO.out K.out (by decide) g hg rfl
end
end Go.Proofs.YtlfikhblmbidmaaGreatDoor
namespace Go.Proofs.YtlfikhblmbidmaaGreatDoor
open Go.RowKit Go.Maps
section
variable {w : World} {p : Nat} {v : Value} {l : VL} {s : LogSt}
set_option maxRecDepth 100000 in
set_option maxHeartbeats 2000000 in
theorem rlprefix_any (h : RLog w p v l s) :
  Calls Tryz.prog 115 #[.pointer (some ⟨p, 0, none⟩)] w fun e w' => ∃ vo, e = .returned vo ∧ w'.ownsRow w.heap.size 9 1 vo (lprefix s).length ((lprefix s).map .string) ∧ Below w.heap.size w w' := by
 obtain ⟨i0, hi, hz0, hz1, hz2⟩ := info_parts info_str
 have HI := Lib.hid hi
 have HZ0 := Lib.hid hz0
 have HZ1 := Lib.hid hz1
 have HZ2 := Lib.hid hz2
 have H := Lib.hid h
 have HU := Lib.hid (rlupto_any h)
 have HB := Lib.hid (rlbase_any h)
 have h1 := h.good.b0
 have h2 := h.good.bu
 have h3 := h.good.ut
 have h4 := h.good.t1
 have HA := Lib.hid h.good.has
 have HGp := Lib.hid h.good.gap
 clear hi hz0 hz1 hz2 h
 go_enter Tryz.func115, Tryz.ntmps115
 go_wp2_with (first
  | (go_at_call 112; refine HU.out.mono ?_; rintro e w' ⟨rfl, rfl⟩)
  | (go_at_call 111; refine HB.out.mono ?_; rintro e w' ⟨rfl, rfl⟩))
 go_loopw [3, 5] (fun v3 c wr => ∃ (i : Int) (xs : List ByteArray), s.base ≤ i ∧ i ≤ s.upto ∧ c = .int .i64 i ∧ (xs.length : Int) = i - s.base ∧ wr.ownsRow w.heap.size 9 1 v3 xs.length (xs.map .string) ∧ Below w.heap.size w wr ∧ lprefix s = xs ++ lpre s.L i (s.top - i).toNat) (fun _ c _ => (s.upto - intOf c).toNat)
 case atStart => exact ⟨s.base, [], Int.le_refl _, h2, rfl, by simp, World.ownsRow_nil _ _ _ _, Below.refl _ _, rfl⟩
 case round =>
  obtain ⟨i, xs, hi1, hi2, rfl, hxl, hrow, hBw, hpre⟩ := hrel
  have HROW := Lib.hid hrow
  have HPRE := Lib.hid hpre
  obtain ⟨A3, c3, rfl⟩ := row_len hrow
  clear hrow hpre
  by_cases hlt : i < s.upto
  ·obtain ⟨y, hy⟩ := Option.isSome_iff_exists.1 (HA.out i hi1 hlt)
   have HP2 : Hid (lprefix s = (xs ++ [y]) ++ lpre s.L (i + 1) (s.top - (i + 1)).toNat) := by
    rw [Hid, HPRE.out, show (s.top - i).toNat = (s.top - (i + 1)).toNat + 1 by omega]
    simp [lpre, hy]
   have HG := rlget_any i (H.out.below hBw)
   unfold getV at HG
   rw [hy] at HG
   have HG2 := Lib.hid HG
   clear HG hy
   go_wp2_with (first
    | (go_at_call 128; refine HG2.out.mono ?_; rintro e w' ⟨rfl, rfl⟩)
    | (at_builtin; go_must (refine wpList_append_own _ rfl _ _ 157 rfl w.heap.size 9 i0 (.string ⟨#[]⟩) 1 16 Tryz.underlying157 HI.out HZ0.out HZ1.out HZ2.out rfl (by decide) _ _ _ rfl (World.ownsRow.alloc HROW.out _) ⟨wr.heap.size, 0, none⟩ 1 1 [.string y] rfl rfl (cell_one_new _ _ _) (by simp [Value.oneCell']) (by unfold maxLen; omega) (by omega) (by have := hBw.size; simp; omega) ?_); intro v' w4 hown hgrow _))
   have hne1 : ∀ k', some k' = _ → w.heap.size ≤ k' := fun k' hk' => (HROW.out.lt k' hk'.symm).1
   have hown' : w4.ownsRow w.heap.size 9 1 v' (xs ++ [y]).length ((xs ++ [y]).map .string) := by
    rw [List.length_append, List.map_append]
    exact hown
   have hB4 := (hBw.alloc hBw.size _).grown hgrow (by have := hBw.size; simp; omega) (fun k' ek => by have := hne1 k' ek.symm; omega)
   go_wp2_with fail
   go_roundw
   case rel => exact ⟨i + 1, xs ++ [y], by omega, by omega, by go_num, by simp; omega, hown', hB4, HP2.out⟩
   case measure => simp [intOf]; omega
  ·obtain rfl : i = s.upto := by omega
   have hE : lprefix s = xs := by
    rw [HPRE.out]
    have : lpre s.L s.upto (s.top - s.upto).toNat = [] := by
     cases (s.top - s.upto).toNat with
     | zero => rfl
     | succ n => simp [lpre, HGp.out]
    rw [this, List.append_nil]
   have HE := Lib.hid hE
   clear hE
   go_wp2_with fail
   go_returns
   rw [HE.out]
   exact ⟨_, rfl, HROW.out, hBw⟩
theorem lgF_step {L : VL} {i top : Int} (h : i < top) : lgapsF L i (top - i).toNat = (if (get i L).isSome then [] else [i]) ++ lgapsF L (i + 1) (top - (i + 1)).toNat := by
 rw [show (top - i).toNat = (top - (i + 1)).toNat + 1 by omega]
 rfl
set_option maxRecDepth 100000 in
set_option maxHeartbeats 4000000 in
theorem rlgaps_any (h : RLog w p v l s) :
  Calls Tryz.prog 118 #[.pointer (some ⟨p, 0, none⟩)] w fun e w' => ∃ vo, e = .returned vo ∧ w'.ownsRow w.heap.size 3 1 vo (lgaps s).length ((lgaps s).map fun x => .int .i64 x) ∧ Below w.heap.size w w' := by
 obtain ⟨i0, hi, hz0, hz1, hz2⟩ := info_parts info_int
 have HI := Lib.hid hi
 have HZ0 := Lib.hid hz0
 have HZ1 := Lib.hid hz1
 have HZ2 := Lib.hid hz2
 have H := Lib.hid h
 have c0 := h.c0
 have c1 := h.c1
 have c2 := h.c2
 have hl := h.len
 have h1 := h.good.b0
 have h2 := h.good.bu
 have h3 := h.good.ut
 have h4 := h.good.t1
 have HA := Lib.hid h.good.has
 have HLA := Lib.hid h.good.last
 have HKE := Lib.hid h.good.keys
 have HPM := Lib.hid h.perm
 obtain ⟨A, cap, rfl, hcap, hc⟩ := h.row.view
 have HC := Lib.hid hc
 clear hi hz0 hz1 hz2 h hc
 go_enter Tryz.func118, Tryz.ntmps118
 go_wp2_with (go_at_call 127; refine (rlvalid p _ c0).mono ?_; rintro e w' ⟨rfl, rfl⟩)
 go_loopw [3, 4] (fun ct c wr => ∃ (i : Nat) (t : Int), i ≤ l.length ∧ c = .int .i64 (i : Int) ∧ ct = .int .i64 t ∧ 0 ≤ t ∧ t ≤ 4096 ∧ wr = w ∧ (∀ x ∈ l.take i, x.1 ≤ t) ∧ (t = 0 ∨ ∃ x ∈ l, x.1 = t)) (fun _ c _ => l.length - (intOf c).toNat)
 case atStart => exact ⟨0, 0, Nat.zero_le _, rfl, rfl, Int.le_refl _, by decide, rfl, by simp, .inl rfl⟩
 case round =>
  obtain ⟨i, t, hi, rfl, rfl, ht0, ht1, hwr, hle, hin⟩ := hrel
  replace hwr := hwr.symm
  subst hwr
  have HLE := Lib.hid hle
  have HIN := Lib.hid hin
  clear hle hin
  by_cases hlt : i < l.length
  ·obtain ⟨g, rfl, _, hg, hcells⟩ := HC.out (by omega)
   obtain ⟨⟨x, xv⟩, hx⟩ : ∃ x, l[i]? = some x := ⟨_, List.getElem?_eq_getElem hlt⟩
   obtain ⟨m1, m2⟩ := hcells i _ hx
   have hk := HKE.out (x, xv) (HPM.out.mem_iff.1 (List.mem_of_getElem? hx))
   have hk1 : s.base ≤ x := hk.1
   have hk2 : x < s.top := hk.2
   have HX := Lib.hid hx
   clear hcells hx m2 hk
   go_wp2_with fail
   go_roundw
   case rel =>
    refine ⟨i + 1, max t x, by omega, by go_num, rfl, by omega, by omega, trivial, fun y hy => ?_, ?_⟩
    ·rw [List.take_add_one, HX.out] at hy
     rcases List.mem_append.1 hy with hy | hy
     ·have := HLE.out y hy; omega
     ·simp at hy
      rw [hy]; show x ≤ max t x; omega
    ·by_cases hm : t ≤ x
     ·exact .inr ⟨(x, xv), List.mem_of_getElem? HX.out, by show x = max t x; omega⟩
     ·rw [show max t x = t by omega]; exact HIN.out
   case measure => simp [intOf]; omega
  ·-- the greatest slot
   have HT : Hid ((l = [] ∧ t = 0 ∧ s.top = s.base) ∨ t = s.top - 1) := by
    rcases HLA.out with e | e
    ·by_cases hn : l = []
     ·refine .inl ⟨hn, ?_, e⟩
      rcases HIN.out with e2 | ⟨x, hx, _⟩
      ·exact e2
      ·rw [hn] at hx; cases hx
     ·obtain ⟨x, r, hx⟩ := List.exists_cons_of_ne_nil hn
      have := HKE.out x (HPM.out.mem_iff.1 (by rw [hx]; simp))
      omega
    ·obtain ⟨y, hy⟩ := Option.isSome_iff_exists.1 e
     have hm := HPM.out.mem_iff.2 (get_mem hy)
     have h5 := HLE.out _ (by rw [List.take_of_length_le (by omega)]; exact hm)
     have h5 : s.top - 1 ≤ t := h5
     have h6 := HKE.out _ (get_mem hy)
     have h6 : s.base ≤ s.top - 1 := h6.1
     rcases HIN.out with e2 | ⟨x, hx, e2⟩
     ·right; omega
     ·have := HKE.out x (HPM.out.mem_iff.1 hx)
      right; omega
   have HTL := Lib.hid (fun e : s.top ≠ s.base => (HLA.out.resolve_left e))
   clear HLE HIN HLA
   go_wp2_with fail
   go_loopw [5, 6] (fun v5 c wr => ∃ (j : Int) (xs : List Int), s.base ≤ j ∧ j ≤ max s.base t ∧ c = .int .i64 j ∧ (xs.length : Int) ≤ j - s.base ∧ wr.ownsRow w.heap.size 3 1 v5 xs.length (xs.map fun x => .int .i64 x) ∧ Below w.heap.size w wr ∧ lgaps s = xs ++ lgapsF s.L (max j s.upto) (s.top - max j s.upto).toNat) (fun _ c _ => (t - intOf c).toNat)
   case atStart => exact ⟨s.base, [], Int.le_refl _, by omega, rfl, by simp, World.ownsRow_nil _ _ _ _, Below.refl _ _, by rw [show max s.base s.upto = s.upto by omega]; rfl⟩
   case round =>
    obtain ⟨j, xs, hj1, hj2, rfl, hxl, hrow, hBw, hgp⟩ := hrel
    have HROW := Lib.hid hrow
    have HGP := Lib.hid hgp
    obtain ⟨A5, c5, rfl⟩ := row_len hrow
    have HH := Lib.hid (rlhas_any j (H.out.below hBw))
    have d1 := bcell hBw c1
    clear hrow hgp
    by_cases hjt : j < t
    ·have hjs : j < s.top := by
      rcases HT.out with ⟨_, e, _⟩ | e
      ·omega
      ·omega
     cases hg : (get j s.L).isSome with
     | true =>
      rw [hg] at HH
      have HG2 : Hid (lgaps s = xs ++ lgapsF s.L (max (j + 1) s.upto) (s.top - max (j + 1) s.upto).toNat) := by
       rw [Hid, HGP.out]
       by_cases hu : j < s.upto
       ·rw [show max (j + 1) s.upto = max j s.upto by omega]
       ·rw [show max j s.upto = j by omega, show max (j + 1) s.upto = j + 1 by omega, lgF_step (by omega), hg]
        simp
      clear hg
      go_wp2_with (go_at_call 181; refine HH.out.mono ?_; rintro e w' ⟨rfl, rfl⟩)
      go_roundw
      case rel => exact ⟨j + 1, xs, by omega, by omega, by go_num, by omega, HROW.out, hBw, HG2.out⟩
      case measure => simp [intOf]; omega
     | false =>
      rw [hg] at HH
      have hju : s.upto ≤ j := by
       refine Int.not_lt.1 fun hu => ?_
       rw [HA.out j hj1 hu] at hg
       cases hg
      have HG2 : Hid (lgaps s = (xs ++ [j]) ++ lgapsF s.L (max (j + 1) s.upto) (s.top - max (j + 1) s.upto).toNat) := by
       rw [Hid, HGP.out, show max j s.upto = j by omega, show max (j + 1) s.upto = j + 1 by omega, lgF_step (by omega), hg]
       simp
      clear hg
      go_wp2_with (first
       | (go_at_call 181; refine HH.out.mono ?_; rintro e w' ⟨rfl, rfl⟩)
       | (at_builtin; go_must (refine wpList_append_own _ rfl _ _ 31 rfl w.heap.size 3 i0 (.int .i64 0) 1 8 Tryz.underlying31 HI.out HZ0.out HZ1.out HZ2.out rfl (by decide) _ _ _ rfl (World.ownsRow.alloc HROW.out _) ⟨wr.heap.size, 0, none⟩ 1 1 [.int .i64 j] rfl rfl (cell_one_new _ _ _) (by simp [Value.oneCell']) (by unfold maxLen; omega) (by omega) (by have := hBw.size; simp; omega) ?_); intro v' w4 hown hgrow _))
      have hne1 : ∀ k', some k' = _ → w.heap.size ≤ k' := fun k' hk' => (HROW.out.lt k' hk'.symm).1
      have hown' : w4.ownsRow w.heap.size 3 1 v' (xs ++ [j]).length ((xs ++ [j]).map fun x => .int .i64 x) := by
       rw [List.length_append, List.map_append]
       exact hown
      have hB4 := (hBw.alloc hBw.size _).grown hgrow (by have := hBw.size; simp; omega) (fun k' ek => by have := hne1 k' ek.symm; omega)
      go_wp2_with fail
      go_roundw
      case rel => exact ⟨j + 1, xs ++ [j], by omega, by omega, by go_num, by simp; omega, hown', hB4, HG2.out⟩
      case measure => simp [intOf]; omega
    ·have hE : lgaps s = xs := by
      rw [HGP.out]
      have : lgapsF s.L (max j s.upto) (s.top - max j s.upto).toNat = [] := by
       rcases HT.out with ⟨_, _, e⟩ | e
       ·rw [show (s.top - max j s.upto).toNat = 0 by omega]; rfl
       ·by_cases hu : s.top ≤ max j s.upto
        ·rw [show (s.top - max j s.upto).toNat = 0 by omega]; rfl
        ·have hlast := HTL.out (by omega)
         rw [show max j s.upto = s.top - 1 by omega, lgF_step (by omega), hlast, show (s.top - (s.top - 1 + 1)).toNat = 0 by omega]
         rfl
      rw [this, List.append_nil]
     have HE := Lib.hid hE
     clear hE
     go_wp2_with fail
     go_returns
     rw [HE.out]
     exact ⟨_, rfl, HROW.out, hBw⟩
end
end Go.Proofs.YtlfikhblmbidmaaGreatDoor