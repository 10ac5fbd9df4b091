/- Package learn: Forget. -/
import Derived.Test.YtnnadpbfidfhoaaLearnI
import Derived.Deep.DeepCutAuto
import Derived.Deep.CutBlock
import Derived.Deep.LoopGhost
import Derived.Deep.RegionHeld3
set_option linter.unusedVariables false
set_option linter.unusedSimpArgs false
namespace Go.Proofs.Ytnnadpbfidfhoaa
open Go.RowKit Go.Maps Go.Shelf

/-- The slots from b on. -/
def cutL (b : Int) (L : KL) : KL := L.filter fun q => decide (b ≤ q.1)
theorem mem_cutL {b : Int} {L : KL} {q : Int × Kn} : q ∈ cutL b L ↔ q ∈ L ∧ b ≤ q.1 := by simp [cutL]
theorem cutL_all {b : Int} {L : KL} (h : ∀ q ∈ L, b ≤ q.1) : cutL b L = L := List.filter_eq_self.2 fun q hq => by simpa using h q hq
theorem del_cutL (x : Int) (L : KL) : del x (cutL x L) = cutL (x + 1) L := by
  unfold del cutL
  rw [List.filter_filter]
  refine List.filter_congr fun q _ => ?_
  rw [Bool.eq_iff_iff]
  simp
  omega
theorem cutL_cutL {a b : Int} (L : KL) (h : a ≤ b) : cutL b (cutL a L) = cutL b L := by
  unfold cutL
  rw [List.filter_filter]
  refine List.filter_congr fun q _ => ?_
  rw [Bool.eq_iff_iff]
  simp
  omega
theorem get_cutL_ge {b i : Int} (h : b ≤ i) : ∀ L : KL, get i (cutL b L) = get i L
  | [] => rfl
  | q :: r => by
    have ih := get_cutL_ge h r
    unfold get cutL at ih ⊢
    rw [List.filter_cons]
    by_cases hq : b ≤ q.1
    · rw [if_pos (by simpa using hq), List.find?_cons, List.find?_cons]
      cases q.1 == i
      · exact ih
      · rfl
    · rw [if_neg (by simpa using hq), List.find?_cons]
      have : (q.1 == i) = false := by simp; omega
      rw [this]
      exact ih
theorem kget_cutL_ge {b i : Int} {L : KL} (h : b ≤ i) : kget i (cutL b L) = kget i L := by unfold kget; rw [get_cutL_ge h]
theorem kget_cutL_lt {b i : Int} {L : KL} (h : i < b) : kget i (cutL b L) = kn0 := by
  unfold kget
  rw [get_none.2 fun q hq => by have := (mem_cutL.1 hq).2; omega]
  rfl
theorem cutL_len (b : Int) (L : KL) : (cutL b L).length ≤ L.length := List.length_filter_le _ _

def fgE (k : Int) : Int := if k < 0 ∨ 4096 < k then 3 else 0
def fgS (s : LSt) (k : Int) : LSt := if k < 0 ∨ 4096 < k then s else { s with base := max s.base k, L := cutL (max s.base k) s.L }
theorem LGood.cut {s : LSt} (h : LGood s) {b : Int} (h1 : s.base ≤ b) (h2 : b ≤ 4096) : LGood { s with base := b, L := cutL b s.L } := by
  refine ⟨h.n, ⟨by have := h.base; simp only; omega, h2⟩, List.Pairwise.filter _ h.srt, fun q hq => ⟨(mem_cutL.1 hq).2, (h.slots q (mem_cutL.1 hq).1).2⟩, ?_, fun q hq => h.sets q (mem_cutL.1 hq).1, fun q hq => h.none0 q (mem_cutL.1 hq).1⟩
  exact Nat.le_trans (cutL_len _ _) h.len
theorem Climbs.cut {L : KL} {base u u' b : Int} (h : Climbs L base u) (h1 : base ≤ b) (k : Climbs (cutL b L) (max u b) u') : Climbs (cutL b L) b u' := by
  refine ⟨by have := k.le; omega, fun i hi hi2 => ?_, k.stop⟩
  by_cases hu : i < u
  · rw [kget_cutL_ge hi]
    exact h.all i (by omega) hu
  · exact k.all i (by omega) hi2

set_option maxRecDepth 100000 in
set_option maxHeartbeats 2000000 in
theorem forget_S (p m : Nat) (s : LSt) (k : Int) (w : World) (h : LS w p m s) :
    Calls Try.prog 18 #[.pointer (some ⟨p, 0, none⟩), .int .i64 k] w fun e w' => e = .returned (.int .i64 (fgE k)) ∧ LS w' p m (fgS s k) ∧ Fr (S2 p m) w w' := by
  have hn := h.npos
  have HS := Lib.hid h
  obtain ⟨⟨u, hT, hC, hu⟩, hg⟩ := h
  have HT := Lib.hid hT
  have HG := Lib.hid hg
  have HC := Lib.hid hC
  have hb0 := hg.base
  have hub := hC.le
  have HKI := Lib.hid hg.kin
  have hsl := hg.slots
  have hll := hg.len
  have HSL := Lib.hid hsl
  have c0 := hT.c0
  clear hsl hT hC hg
  by_cases hbad : k < 0 ∨ 4096 < k
  · have E : fgE k = 3 := if_pos hbad
    have ES : fgS s k = s := if_pos hbad
    rw [E, ES]
    clear E ES
    go_enter Try.func18, Try.ntmps18
    rcases hbad with h1 | h1
    · go_wp2_with (first | (go_at_call 31; refine (lvalid p s.n _ c0 hn).mono ?_; rintro e w' ⟨rfl, rfl⟩))
      go_returns
      exact ⟨rfl, HS.out, Fr.refl _ _⟩
    · have h2 : ¬ k < 0 := by omega
      go_wp2_with (first | (go_at_call 31; refine (lvalid p s.n _ c0 hn).mono ?_; rintro e w' ⟨rfl, rfl⟩))
      go_returns
      exact ⟨rfl, HS.out, Fr.refl _ _⟩
  · have hk1 : 0 ≤ k := by omega
    have hk2 : k ≤ 4096 := by omega
    have E : fgE k = 0 := if_neg hbad
    have ES : fgS s k = { s with base := max s.base k, L := cutL (max s.base k) s.L } := if_neg hbad
    rw [E, ES]
    clear E ES hbad
    obtain ⟨B, hBd⟩ : ∃ B : Int, max s.base k = B := ⟨_, rfl⟩
    rw [hBd]
    have HBD := Lib.hid hBd
    have hB1 : s.base ≤ B ∧ k ≤ B ∧ B ≤ 4096 := by omega
    clear hBd
    go_enter Try.func18, Try.ntmps18
    go_wp2_with (first | (go_at_call 31; refine (lvalid p s.n _ c0 hn).mono ?_; rintro e w' ⟨rfl, rfl⟩))
    go_loopg [] (k - s.base).toNat (fun g wr => ∃ x : Int, g = (k - x).toNat ∧ s.base ≤ x ∧ x ≤ B ∧ LAt wr p m s.n x u (cutL x s.L) ∧ Fr (S2 p m) w wr)
    case atStart =>
      refine ⟨s.base, rfl, Int.le_refl _, by omega, ?_, Fr.refl _ _⟩
      rw [cutL_all fun q hq => (HSL.out q hq).1]
      exact HT.out
    case round =>
      clear c0
      obtain ⟨x, rfl, hx1, hx2, ht, hf⟩ := hrel
      have T := Lib.hid ht
      have F := Lib.hid hf
      have c1 := ht.c1
      have c3 := ht.c3
      have hlt := ht.lt
      clear ht hf
      by_cases hxk : x < k
      · go_upto_region 7 with fail
        go_still_tail 8, (by kernel_rfl)
        refine wpList_del _ rfl _ _ 63 3 rfl 77 Try.underlying3 Try.underlying63 m (encF knV (cutL x s.L)) rfl T.out.drew.map x rfl (wf64 ⟨by omega, by omega⟩) ?_
        rintro w5 hm5 hg5 hs5
        rw [del_encF, del_cutL] at hm5
        have hf5 : Fr (S1 m) wr w5 := Fr.of_drew (Fr.of_grown hg5 (fun i e => by cases e; rfl))
        have b5 := Lib.hid (T.out.blk.fr hf5 T.out.ne)
        have F5 := Lib.hid hf5
        have M5 := Lib.hid hm5
        have d1 := b5.out.cell (i := 1) (v := .int .i64 x) rfl
        have z1 := b5.out.frozen 1
        have hne := T.out.ne
        have HNE := Lib.hid hne
        clear hm5 hg5 hs5 hf5 c1 c3 hne
        go_wp2_with fail
        go_roundg (k - (x + 1)).toNat
        case measure => omega
        case rel =>
          have hf6 : Fr (S1 p) w5 (w5.setCell ⟨p, 1, none⟩ (.int .i64 (x + 1))) := (Fr.refl (S1 p) w5).setCell (p := ⟨p, 1, none⟩) (.inl (show S1 p p from rfl)) _
          refine ⟨x + 1, rfl, by omega, by omega, ⟨b5.out.set 1 _, ?_⟩, (F.out.trans (F5.out.mono fun i e => .inr e)).trans (hf6.mono fun i e => .inl e)⟩
          exact M5.out.of_block (hf6.block m M5.out.lt (fun e => HNE.out e.symm))
      · have hx : B = x := by have := HBD.out; omega
        subst hx
        have hx40 : 0 ≤ B ∧ B ≤ 4096 := by omega
        clear hx2
        have c2 := T.out.c2
        go_upto_region 8 with fail
        have z2 := T.out.blk.frozen 2
        go_still_tail 12, (by kernel_rfl)
        have hf6 : Fr (S1 p) wr (wr.setCell ⟨p, 2, none⟩ (.int .i64 (max u B))).drew := (((Fr.refl (S1 p) wr)).setCell (p := ⟨p, 2, none⟩) (.inl (show S1 p p from rfl)) _).drew
        have T3 : Hid (LAt (wr.setCell ⟨p, 2, none⟩ (.int .i64 (max u B))).drew p m s.n B (max u B) (cutL B s.L)) := LAt.drew ⟨T.out.blk.set 2 _, T.out.map.of_block (hf6.block m T.out.map.lt (fun e => T.out.ne e.symm))⟩
        have F6 := Lib.hid hf6
        clear hf6
        go_upto_region 9 with fail
        generalize (wr.setCell ⟨p, 2, none⟩ (.int .i64 (max u B))).drew = W6 at *
        clear c1 c2 c3
        go_wp2_with (first | (go_at_call 37; refine (climb_any p m s.n B (max u B) (cutL B s.L) _ T3.out ⟨by omega, by omega⟩ (fun q hq => HKI.out q (mem_cutL.1 hq).1)).mono ?_; rintro e w7 ⟨rfl, u7, c7, l7, t7, f7⟩; have C7 := Lib.hid c7; have T7 := Lib.hid t7; have F7 := Lib.hid f7; clear c7 t7 f7))
        go_returns
        exact ⟨rfl, ⟨⟨u7, T7.out, HC.out.cut hx1 C7.out, l7⟩, HG.out.cut hx1 hx40.2⟩, (F.out.trans (F6.out.mono fun i e => .inl e)).trans (F7.out.mono fun i e => .inl e)⟩
end Go.Proofs.Ytnnadpbfidfhoaa
