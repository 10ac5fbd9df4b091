/- The reference's learner: get, set, Forget. -/
import Derived.Test.YtnnadpbfidfhoaaRLearnA
import Derived.Deep.DeepMust
import Derived.Deep.RegionHeld3
set_option linter.unusedVariables false
set_option linter.unusedSimpArgs false
namespace Go.Proofs.Ytnnadpbfidfhoaa
open Go.RowKit Go.Maps Go.Shelf

set_option maxRecDepth 100000 in
set_option maxHeartbeats 1000000 in
theorem rlget_any (p : Nat) (v : Value) (s : LSt) (R : KL) (k : Int) (w : World) (h : RLAt w p v s R) (c : Bool) (v1 : ByteArray) (r d : Int) (vo : ByteArray) (st : Nat) (hk : kget k s.L = ⟨c, v1, r, d, vo, st⟩) :
    Calls Try.prog 40 #[.pointer (some ⟨p, 0, none⟩), .int .i64 k] w fun e w' =>
      e = .returned (.agg #[.int .i64 k, .bool c, .string v1, .int .i64 r, .int .i64 d, .string vo, .int .u64 (st : Int)]) ∧ Below w.heap.size w w' := by
  have hb := box_below w (.cells #[.int .i64 0, .bool false, .string ⟨#[]⟩, .int .i64 0, .int .i64 0, .string ⟨#[]⟩, .int .u64 0] 87)
  have c2 := bcell hb h.c2
  have hl := h.len
  have HM : Hid (∀ x e, (x, e) ∈ R → kget x s.L = e) := fun x e hq => h.mem hq
  have HN0 : Hid (∀ x, (∀ q ∈ R, q.1 ≠ x) → kget x s.L = kn0) := fun x hq => h.none hq
  have HK := Lib.hid hk
  obtain ⟨A, cap, rfl, hcap, hc⟩ := h.row.view
  have HC := Lib.hid hc
  have HB := Lib.hid hb
  clear h hc hb hk
  go_enter Try.func40, Try.ntmps40
  go_wp2_with fail
  go_loop [5] (fun c => ∃ i : Nat, i ≤ R.length ∧ c = .int .i64 i ∧ ∀ q ∈ R.take i, q.1 ≠ k) (fun c => R.length - (intOf c).toNat)
  case atStart => exact ⟨0, by omega, rfl, fun q hq => by simp at hq⟩
  case round =>
    obtain ⟨i, hi, rfl, hup⟩ := hrel
    have HUP := Lib.hid hup
    clear hup
    by_cases hlt : i < R.length
    · obtain ⟨g, rfl, _, hg, hcells⟩ := HC.out (by omega)
      obtain ⟨⟨x, ⟨e1, e2, e3, e4, e5, e6⟩⟩, hs⟩ : ∃ q, R[i]? = some q := ⟨_, List.getElem?_eq_getElem hlt⟩
      obtain ⟨m1, m2, m3, m4, m5, m6, m7⟩ := hcells i _ _ _ _ _ _ _ hs
      have z1 := bcell HB.out m1
      have z2 := bcell HB.out m2
      have z3 := bcell HB.out m3
      have z4 := bcell HB.out m4
      have z5 := bcell HB.out m5
      have z6 := bcell HB.out m6
      have z7 := bcell HB.out m7
      have HSn := Lib.hid (take_snoc hs)
      have HMm := Lib.hid (List.mem_of_getElem? hs)
      clear m1 m2 m3 m4 m5 m6 m7 hcells hs
      by_cases hx : x = k
      · subst hx
        have hke := HK.out
        rw [HM.out _ _ HMm.out] at hke
        injection hke with i1 i2 i3 i4 i5 i6
        subst i1 i2 i3 i4 i5 i6
        go_wp2_with fail
        go_returns
        exact ⟨rfl, box_below _ _⟩
      · have hx' : ((x : Int) == k) = false := by simpa using hx
        have HN : Hid (∀ q ∈ R.take (i + 1), q.1 ≠ k) := by
          intro q hq
          rw [HSn.out, List.mem_append] at hq
          rcases hq with hq | hq
          · exact HUP.out q hq
          · simp at hq; subst hq; exact hx
        clear hx
        go_wp2_with fail
        go_round
        case rel => exact ⟨i + 1, by omega, by go_num, HN.out⟩
        case measure => simp [intOf]; omega
    · have e : i = R.length := by omega
      have hup := HUP.out
      rw [e, List.take_length] at hup
      have hke := HK.out
      rw [HN0.out _ hup] at hke
      injection hke with i1 i2 i3 i4 i5 i6
      subst i1 i2 i3 i4 i5 i6
      subst e
      clear hup
      go_wp2_with fail
      go_returns
      exact ⟨rfl, box_below _ _⟩

theorem insS_perm {β : Type} (x : Int × β) : ∀ L : List (Int × β), (insS x L).Perm (x :: L)
  | [] => .refl _
  | y :: r => by
    unfold insS
    split
    · exact .refl _
    · exact ((insS_perm x r).cons y).trans (.swap x y r)
def delL (k : Int) (R : KL) : KL := R.filter fun q => q.1 != k
theorem put_perm {R L : KL} (h : R.Perm L) (k : Int) (e : Kn) : (delL k R ++ [(k, e)]).Perm (put k e L) := by
  unfold put
  refine (List.perm_append_comm (l₁ := delL k R) (l₂ := [(k, e)])).trans (.trans ?_ (insS_perm (k, e) (del k L)).symm)
  exact (h.filter _).cons _

set_option maxRecDepth 100000 in
set_option maxHeartbeats 2000000 in
theorem rlset_any (p : Nat) (v : Value) (s : LSt) (R : KL) (k : Int) (c : Bool) (v1 : ByteArray) (r d : Int) (vo : ByteArray) (st : Nat) (w : World) (h : RLAt w p v s R) (hg : LGood { s with L := put k ⟨c, v1, r, d, vo, st⟩ s.L }) :
    Calls Try.prog 43 #[.pointer (some ⟨p, 0, none⟩), .agg #[.int .i64 k, .bool c, .string v1, .int .i64 r, .int .i64 d, .string vo, .int .u64 (st : Int)]] w fun e w' =>
      e = .returned (.tuple #[]) ∧ ∃ v' R', RLAt w' p v' { s with L := put k ⟨c, v1, r, d, vo, st⟩ s.L } R' ∧ Fr (S1 p) w w' := by
  have hb := box_below w (.cells #[.int .i64 k, .bool c, .string v1, .int .i64 r, .int .i64 d, .string vo, .int .u64 (st : Int)] 87)
  have b1 := Blk.new w 87 #[.int .i64 k, .bool c, .string v1, .int .i64 r, .int .i64 d, .string vo, .int .u64 (st : Int)]
  have HT := Lib.hid (h.below hb)
  have hlt0 := h.blk.lt
  have hl := h.len
  have HB := Lib.hid hb
  have HG := Lib.hid hg
  have HP := Lib.hid (put_perm h.perm k ⟨c, v1, r, d, vo, st⟩)
  clear h hb hg
  go_enter Try.func43, Try.ntmps43
  go_wp2_with fail
  generalize (w.alloc (.cells #[.int .i64 k, .bool c, .string v1, .int .i64 r, .int .i64 d, .string vo, .int .u64 (st : Int)] 87)) = W1 at *
  obtain ⟨kb, hkb⟩ : ∃ kb, kb = w.heap.size := ⟨_, rfl⟩
  rw [← hkb] at b1 hlt0 ⊢
  have K1 := Lib.hid b1
  clear hkb b1
  obtain ⟨A, cap, rfl, hcap, hc⟩ := HT.out.row.view
  have HC := Lib.hid hc
  obtain ⟨i0, hi, hz0, hz1, hz2⟩ := info_parts info_kn
  have HI := Lib.hid hi
  have HZ0 := Lib.hid hz0
  have HZ1 := Lib.hid hz1
  have HZ2 := Lib.hid hz2
  clear hi hz0 hz1 hz2 hc
  go_loopw [4, 5] (fun v5 c wr => ∃ i : Nat, i ≤ R.length ∧ c = .int .i64 i ∧ KnRow wr W1.heap.size v5 (delL k (R.take i)) ∧ Below W1.heap.size W1 wr) (fun _ c _ => R.length - (intOf c).toNat)
  case atStart => exact ⟨0, by omega, rfl, KnRow.nil _ _, Below.refl _ _⟩
  case round =>
    obtain ⟨i, hi, rfl, hrow, hB⟩ := hrel
    have HROW := Lib.hid hrow
    have z0 := bcell hB HT.out.c2
    have y0 := (K1.out.bel hB).cell (i := 0) (v := .int .i64 k) rfl
    clear hrow
    by_cases hlt : i < R.length
    · obtain ⟨g, rfl, _, hg9, hcells⟩ := HC.out (by omega)
      obtain ⟨⟨x, ⟨e1, e2, e3, e4, e5, e6⟩⟩, hs⟩ : ∃ q, R[i]? = some q := ⟨_, List.getElem?_eq_getElem hlt⟩
      obtain ⟨m1, m2, m3, m4, m5, m6, m7⟩ := hcells i _ _ _ _ _ _ _ hs
      have z1 := bcell hB m1
      have z2 := bcell hB m2
      have z3 := bcell hB m3
      have z4 := bcell hB m4
      have z5 := bcell hB m5
      have z6 := bcell hB m6
      have z7 := bcell hB m7
      have HSn := Lib.hid (take_snoc hs)
      have hnl : (delL k (R.take i)).length ≤ i := Nat.le_trans (List.length_filter_le _ _) (List.length_take_le i R)
      clear m1 m2 m3 m4 m5 m6 m7 hcells hs
      cases hx : (x != k) with
      | true =>
        have HL : Hid (delL k (R.take (i + 1)) = delL k (R.take i) ++ [(x, ⟨e1, e2, e3, e4, e5, e6⟩)]) := by
          rw [Hid, HSn.out]; unfold delL; rw [List.filter_append, List.filter_cons, if_pos hx]; rfl
        go_wp2_with fail
        go_region_held3 (fun W => W.cell? ⟨p, 2, none⟩ = some (.slice (some ⟨g, 0, none⟩) R.length cap) ∧ W.cell? ⟨g, i * 7, none⟩ = some (.int .i64 x) ∧ W.cell? ⟨kb, 0, none⟩ = some (.int .i64 k))
          (first | exact ⟨by assumption, by assumption, by assumption⟩ | go_keep)
          (first | fail)
        have z0' : wr.drew.cell? ⟨p, 2, none⟩ = some (.slice (some ⟨g, 0, none⟩) R.length cap) := z0
        have z1' : wr.drew.cell? ⟨g, i * 7, none⟩ = some (.int .i64 x) := z1
        have z2' : wr.drew.cell? ⟨g, i * 7 + 1, none⟩ = some (.bool e1) := z2
        have z3' : wr.drew.cell? ⟨g, i * 7 + 2, none⟩ = some (.string e2) := z3
        have z4' : wr.drew.cell? ⟨g, i * 7 + 3, none⟩ = some (.int .i64 e3) := z4
        have z5' : wr.drew.cell? ⟨g, i * 7 + 4, none⟩ = some (.int .i64 e4) := z5
        have z6' : wr.drew.cell? ⟨g, i * 7 + 5, none⟩ = some (.string e5) := z6
        have z7' : wr.drew.cell? ⟨g, i * 7 + 6, none⟩ = some (.int .u64 (e6 : Int)) := z7
        have HROWd : Hid (KnRow wr.drew W1.heap.size u4 (delL k (R.take i))) := HROW
        have hBd : Below W1.heap.size W1 wr.drew := hB.drew
        generalize wr.drew = wd at *
        go_wp2_with (first
          | (at_builtin; go_must (refine wpList_app rfl _ _ 82 rfl W1.heap.size 87 i0 knZ 7 72 Try.underlying82 HI.out HZ0.out HZ1.out HZ2.out rfl (by decide) _ _ _ rfl (World.ownsRow.alloc HROWd.out _) (some ⟨wd.heap.size, 0, none⟩) 1 1 (knL (x, ⟨e1, e2, e3, e4, e5, e6⟩)) rfl (by simp) (by omega) (reads_new _ _ (knL (x, ⟨e1, e2, e3, e4, e5, e6⟩)) 1 7 rfl) (knL_one _) (by unfold maxLen; omega) (by omega) (by have := hBd.size; simp; omega) ?_)))
        intro v' w4 hown hgrow _
        have hne1 : ∀ k', some k' = _ → W1.heap.size ≤ k' := fun k' hk' => (HROWd.out.lt k' hk'.symm).1
        have hown' : KnRow w4 W1.heap.size v' (delL k (R.take (i + 1))) := by
          rw [HL.out]
          unfold KnRow
          rw [cellsN_append, List.length_append]
          exact hown
        have hB4 := (hBd.alloc hBd.size _).grown hgrow (by have := hBd.size; simp; omega) (fun k' ek => by have := hne1 k' ek.symm; omega)
        go_wp2_with fail
        go_roundw
        case rel => exact ⟨i + 1, by omega, by go_num, hown', hB4⟩
        case measure => simp [intOf]; omega
      | false =>
        have HL : Hid (delL k (R.take (i + 1)) = delL k (R.take i)) := by
          rw [Hid, HSn.out]; unfold delL; rw [List.filter_append, List.filter_cons, if_neg (by simp only; rw [hx]; simp)]; simp
        go_wp2_with fail
        go_region_held3 (fun W => W.cell? ⟨p, 2, none⟩ = some (.slice (some ⟨g, 0, none⟩) R.length cap) ∧ W.cell? ⟨g, i * 7, none⟩ = some (.int .i64 x) ∧ W.cell? ⟨kb, 0, none⟩ = some (.int .i64 k))
          (first | exact ⟨by assumption, by assumption, by assumption⟩ | go_keep)
          (first | fail)
        go_wp2_with fail
        go_roundw
        case rel => exact ⟨i + 1, by omega, by go_num, by rw [HL.out]; exact HROW.out, hB.drew⟩
        case measure => simp [intOf]; omega
    · have e : i = R.length := by omega
      have hr := HROW.out
      rw [e, List.take_length] at hr
      have HR := Lib.hid hr
      have KR := K1.out.bel hB
      have y1 := KR.cell (i := 1) (v := .bool c) rfl
      have y2 := KR.cell (i := 2) (v := .string v1) rfl
      have y3 := KR.cell (i := 3) (v := .int .i64 r) rfl
      have y4 := KR.cell (i := 4) (v := .int .i64 d) rfl
      have y5 := KR.cell (i := 5) (v := .string vo) rfl
      have y6 := KR.cell (i := 6) (v := .int .u64 (st : Int)) rfl
      subst e
      have hnl : (delL k R).length ≤ 4096 := Nat.le_trans (List.length_filter_le _ _) hl
      have hB0 := hB.size
      clear hr KR
      go_wp2_with (first
          | (at_builtin; go_must (refine wpList_app rfl _ _ 82 rfl W1.heap.size 87 i0 knZ 7 72 Try.underlying82 HI.out HZ0.out HZ1.out HZ2.out rfl (by decide) _ _ _ rfl (World.ownsRow.alloc HR.out _) (some ⟨wr.heap.size, 0, none⟩) 1 1 (knL (k, ⟨c, v1, r, d, vo, st⟩)) rfl (by simp) (by omega) (reads_new _ _ (knL (k, ⟨c, v1, r, d, vo, st⟩)) 1 7 rfl) (knL_one _) (by unfold maxLen; omega) (by omega) (by simp; omega) ?_)))
      intro v6 w6 hown6 hgrow6 _
      have hne6 : ∀ k', some k' = _ → W1.heap.size ≤ k' := fun k' hk' => (HR.out.lt k' hk'.symm).1
      have ho6 : KnRow w6 W1.heap.size v6 (delL k R ++ [(k, ⟨c, v1, r, d, vo, st⟩)]) := by
        unfold KnRow
        rw [cellsN_append, List.length_append]
        exact hown6
      have hB6 := (hB.alloc hB.size _).grown hgrow6 (by simp; omega) (fun k' ek => by have := hne6 k' ek.symm; omega)
      have T6 := Lib.hid (HT.out.below hB6)
      obtain ⟨A6, k6, hv6, _⟩ := row_view ho6
      obtain ⟨n6, hn6⟩ : ∃ n6, n6 = (delL k R ++ [(k, (⟨c, v1, r, d, vo, st⟩ : Kn))]).length := ⟨_, rfl⟩
      rw [← hn6] at hv6
      subst hv6
      clear hn6
      have O6 := Lib.hid ho6
      have f2 := T6.out.blk.frozen 2
      have x2 := T6.out.c2
      clear hown6 hgrow6 hne6 ho6 y0 y1 y2 y3 y4 y5 y6 z0
      go_wp2_with fail
      go_returns
      have hf : Fr (S1 p) w6 (w6.setCell ⟨p, 2, none⟩ (.slice A6 n6 k6)) := (Fr.refl (S1 p) w6).setCell (p := ⟨p, 2, none⟩) (.inl (show S1 p p from rfl)) _
      refine ⟨rfl, _, _, ⟨T6.out.blk.set 2 _, ?_, HP.out, HG.out⟩, ((Fr.of_below HB.out).trans (Fr.of_below hB6)).trans hf⟩
      exact row_lower (row_fr O6.out hf fun g hg' hs => row_ne_blk O6.out T6.out.blk (by decide) g hg' hs) (Nat.zero_le _)

set_option maxRecDepth 100000 in
set_option maxHeartbeats 2000000 in
theorem rlforget_any (p : Nat) (v : Value) (s : LSt) (R : KL) (k : Int) (w : World) (h : RLAt w p v s R) :
    Calls Try.prog 24 #[.pointer (some ⟨p, 0, none⟩), .int .i64 k] w fun e w' =>
      e = .returned (.int .i64 (fgE k)) ∧ ∃ v' R', RLAt w' p v' (fgS s k) R' ∧ Fr (S1 p) w w' := by
  have HT := Lib.hid h
  by_cases hbad : k < 0 ∨ 4096 < k
  · have E1 : fgE k = 3 := if_pos hbad
    have E2 : fgS s k = s := if_pos hbad
    rw [E1, E2]
    clear E1 E2 h
    rcases hbad with h1 | h1
    · go_enter Try.func24, Try.ntmps24
      go_wp2_with fail
      go_returns
      exact ⟨rfl, v, R, HT.out, Fr.refl _ _⟩
    · have h0 : decide (k < 0) = false := by simp; omega
      go_enter Try.func24, Try.ntmps24
      go_wp2_with fail
      go_returns
      exact ⟨rfl, v, R, HT.out, Fr.refl _ _⟩
  have E1 : fgE k = 0 := if_neg hbad
  have E2 : fgS s k = { s with base := max s.base k, L := cutL (max s.base k) s.L } := if_neg hbad
  rw [E1, E2]
  clear E1 E2
  have hk0 : decide (k < 0) = false := by simp; omega
  have hk1 : decide (k > 4096) = false := by simp; omega
  have hgb := h.good.base
  have HG : Hid (LGood { s with base := max s.base k, L := cutL (max s.base k) s.L }) := h.good.cut (by omega) (by omega)
  obtain ⟨B, hBd⟩ : ∃ B : Int, max s.base k = B := ⟨_, rfl⟩
  have HBD := Lib.hid hBd
  rw [hBd] at HG ⊢
  clear hbad hgb hBd
  have c1 := h.c1
  have f1 := h.blk.frozen 1
  have hl := h.len
  have hlt0 := h.blk.lt
  clear h
  go_enter Try.func24, Try.ntmps24
  go_upto_region 4 with fail
  rw [HBD.out]
  have hf1 : Fr (S1 p) w (w.setCell ⟨p, 1, none⟩ (.int .i64 B)) := (Fr.refl (S1 p) w).setCell (p := ⟨p, 1, none⟩) (.inl (show S1 p p from rfl)) _
  have K1 : Hid (Blk (w.setCell ⟨p, 1, none⟩ (.int .i64 B)) p 84 #[.int .i64 s.n, .int .i64 B, v]) := HT.out.blk.set 1 _
  have R1 : Hid (KnRow (w.setCell ⟨p, 1, none⟩ (.int .i64 B)) 0 v R) := row_fr HT.out.row hf1 fun g hg' hs => row_ne_blk HT.out.row HT.out.blk (by decide) g hg' hs
  have HP : Hid ((cutL B R).Perm (cutL B s.L)) := HT.out.perm.filter _
  have F1 := Lib.hid hf1
  have hlt1 : p < (w.setCell ⟨p, 1, none⟩ (.int .i64 B)).heap.size := K1.out.lt
  clear hf1 c1 f1 hlt0 HT
  generalize w.setCell ⟨p, 1, none⟩ (.int .i64 B) = W1 at *
  obtain ⟨A, cap, rfl, hcap, hc⟩ := R1.out.view
  have HC := Lib.hid hc
  obtain ⟨i0, hi, hz0, hz1, hz2⟩ := info_parts info_kn
  have HI := Lib.hid hi
  have HZ0 := Lib.hid hz0
  have HZ1 := Lib.hid hz1
  have HZ2 := Lib.hid hz2
  clear hi hz0 hz1 hz2 hc
  go_wp2_with fail
  go_loopw [5, 6] (fun v5 c wr => ∃ i : Nat, i ≤ R.length ∧ c = .int .i64 i ∧ KnRow wr W1.heap.size v5 (cutL B (R.take i)) ∧ Below W1.heap.size W1 wr) (fun _ c _ => R.length - (intOf c).toNat)
  case atStart => exact ⟨0, by omega, rfl, KnRow.nil _ _, Below.refl _ _⟩
  case round =>
    obtain ⟨i, hi, rfl, hrow, hB⟩ := hrel
    have HROW := Lib.hid hrow
    have KR := K1.out.bel hB
    have z0 := KR.cell (i := 2) (v := .slice A R.length cap) rfl
    have y0 := KR.cell (i := 1) (v := .int .i64 B) rfl
    clear hrow KR
    by_cases hlt : i < R.length
    · obtain ⟨g, rfl, _, hg9, hcells⟩ := HC.out (by omega)
      obtain ⟨⟨x, ⟨e1, e2, e3, e4, e5, e6⟩⟩, hs⟩ : ∃ q, R[i]? = some q := ⟨_, List.getElem?_eq_getElem hlt⟩
      obtain ⟨m1, m2, m3, m4, m5, m6, m7⟩ := hcells i _ _ _ _ _ _ _ hs
      have z1 := bcell hB m1
      have z2 := bcell hB m2
      have z3 := bcell hB m3
      have z4 := bcell hB m4
      have z5 := bcell hB m5
      have z6 := bcell hB m6
      have z7 := bcell hB m7
      have HSn := Lib.hid (take_snoc hs)
      have hnl : (cutL B (R.take i)).length ≤ i := Nat.le_trans (List.length_filter_le _ _) (List.length_take_le i R)
      clear m1 m2 m3 m4 m5 m6 m7 hcells hs
      cases hx : decide (x ≥ B) with
      | true =>
        have HL : Hid (cutL B (R.take (i + 1)) = cutL B (R.take i) ++ [(x, ⟨e1, e2, e3, e4, e5, e6⟩)]) := by
          rw [Hid, HSn.out]; unfold cutL; rw [List.filter_append, List.filter_cons, if_pos hx]; rfl
        go_wp2_with fail
        go_region_held3 (fun W => W.cell? ⟨p, 2, none⟩ = some (.slice (some ⟨g, 0, none⟩) R.length cap) ∧ W.cell? ⟨g, i * 7, none⟩ = some (.int .i64 x) ∧ W.cell? ⟨p, 1, none⟩ = some (.int .i64 B))
          (first | exact ⟨by assumption, by assumption, by assumption⟩ | go_keep)
          (first | fail)
        have z0' : wr.drew.cell? ⟨p, 2, none⟩ = some (.slice (some ⟨g, 0, none⟩) R.length cap) := z0
        have z1' : wr.drew.cell? ⟨g, i * 7, none⟩ = some (.int .i64 x) := z1
        have z2' : wr.drew.cell? ⟨g, i * 7 + 1, none⟩ = some (.bool e1) := z2
        have z3' : wr.drew.cell? ⟨g, i * 7 + 2, none⟩ = some (.string e2) := z3
        have z4' : wr.drew.cell? ⟨g, i * 7 + 3, none⟩ = some (.int .i64 e3) := z4
        have z5' : wr.drew.cell? ⟨g, i * 7 + 4, none⟩ = some (.int .i64 e4) := z5
        have z6' : wr.drew.cell? ⟨g, i * 7 + 5, none⟩ = some (.string e5) := z6
        have z7' : wr.drew.cell? ⟨g, i * 7 + 6, none⟩ = some (.int .u64 (e6 : Int)) := z7
        have HROWd : Hid (KnRow wr.drew W1.heap.size u5 (cutL B (R.take i))) := HROW
        have hBd : Below W1.heap.size W1 wr.drew := hB.drew
        generalize wr.drew = wd at *
        go_wp2_with (first
          | (at_builtin; go_must (refine wpList_app rfl _ _ 82 rfl W1.heap.size 87 i0 knZ 7 72 Try.underlying82 HI.out HZ0.out HZ1.out HZ2.out rfl (by decide) _ _ _ rfl (World.ownsRow.alloc HROWd.out _) (some ⟨wd.heap.size, 0, none⟩) 1 1 (knL (x, ⟨e1, e2, e3, e4, e5, e6⟩)) rfl (by simp) (by omega) (reads_new _ _ (knL (x, ⟨e1, e2, e3, e4, e5, e6⟩)) 1 7 rfl) (knL_one _) (by unfold maxLen; omega) (by omega) (by have := hBd.size; simp; omega) ?_)))
        intro v' w4 hown hgrow _
        have hne1 : ∀ k', some k' = _ → W1.heap.size ≤ k' := fun k' hk' => (HROWd.out.lt k' hk'.symm).1
        have hown' : KnRow w4 W1.heap.size v' (cutL B (R.take (i + 1))) := by
          rw [HL.out]
          unfold KnRow
          rw [cellsN_append, List.length_append]
          exact hown
        have hB4 := (hBd.alloc hBd.size _).grown hgrow (by have := hBd.size; simp; omega) (fun k' ek => by have := hne1 k' ek.symm; omega)
        go_wp2_with fail
        go_roundw
        case rel => exact ⟨i + 1, by omega, by go_num, hown', hB4⟩
        case measure => simp [intOf]; omega
      | false =>
        have HL : Hid (cutL B (R.take (i + 1)) = cutL B (R.take i)) := by
          rw [Hid, HSn.out]; unfold cutL; rw [List.filter_append, List.filter_cons, if_neg (by simp only; simpa using hx)]; simp
        go_wp2_with fail
        go_region_held3 (fun W => W.cell? ⟨p, 2, none⟩ = some (.slice (some ⟨g, 0, none⟩) R.length cap) ∧ W.cell? ⟨g, i * 7, none⟩ = some (.int .i64 x) ∧ W.cell? ⟨p, 1, none⟩ = some (.int .i64 B))
          (first | exact ⟨by assumption, by assumption, by assumption⟩ | go_keep)
          (first | fail)
        go_wp2_with fail
        go_roundw
        case rel => exact ⟨i + 1, by omega, by go_num, by rw [HL.out]; exact HROW.out, hB.drew⟩
        case measure => simp [intOf]; omega
    · have e : i = R.length := by omega
      have hr := HROW.out
      rw [e, List.take_length] at hr
      have KR := K1.out.bel hB
      have f2 := KR.frozen 2
      obtain ⟨A6, k6, hv6, _⟩ := row_view hr
      obtain ⟨n6, hn6⟩ : ∃ n6, n6 = (cutL B R).length := ⟨_, rfl⟩
      rw [← hn6] at hv6
      subst hv6
      have HR := Lib.hid hr
      have K6 := Lib.hid KR
      subst e
      clear hn6 hr KR HROW
      go_wp2_with fail
      go_returns
      have hf : Fr (S1 p) wr (wr.setCell ⟨p, 2, none⟩ (.slice A6 n6 k6)) := (Fr.refl (S1 p) wr).setCell (p := ⟨p, 2, none⟩) (.inl (show S1 p p from rfl)) _
      refine ⟨rfl, _, _, ⟨K6.out.set 2 _, ?_, HP.out, HG.out⟩, (F1.out.trans (Fr.of_below hB)).trans hf⟩
      exact row_lower (row_fr HR.out hf fun g hg' hs => row_ne_blk HR.out K6.out (by decide) g hg' hs) (Nat.zero_le _)
end Go.Proofs.Ytnnadpbfidfhoaa
