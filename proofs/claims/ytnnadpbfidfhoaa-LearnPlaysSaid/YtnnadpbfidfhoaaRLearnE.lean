/- The reference's learner: Add notes a vote. -/
import Derived.Test.YtnnadpbfidfhoaaRLearnD
import Derived.Deep.DeepCutAuto
import Derived.Deep.CutBlock
set_option linter.unusedVariables false
set_option linter.unusedSimpArgs false
namespace Go.Proofs.Ytnnadpbfidfhoaa
open Go.RowKit Go.Maps Go.Shelf

set_option maxRecDepth 100000 in
set_option maxHeartbeats 8000000 in
theorem rladd_yes (p : Nat) (v0 : Value) (s : LSt) (R : KL) (nd : Nat) (r d k : Int) (v : ByteArray) (w : World) (h : RLAt w p v0 s R) (hV : isV s.n (nd : Int) r d = true) (hE : lchk s.base false k v.size = 0) (ho : ¬ ordB (r, d) ((kget k s.L).r, (kget k s.L).d) < 0) (hbd : ¬ adBad (kget k s.L) r d v) :
    Calls Try.prog 22 #[.pointer (some ⟨p, 0, none⟩), .int .i64 (nd : Int), balV r d, .int .i64 k, .string v] w (RAddPost p s { s with L := put k (adKn (kget k s.L) r d nd s.n v) s.L } (adNow (kget k s.L) r d nd s.n) 0 w) := by
  obtain ⟨node, hnd⟩ : ∃ node : Int, node = (nd : Int) := ⟨_, rfl⟩
  rw [← hnd] at hV ⊢
  have HND := Lib.hid hnd
  have hEq := fun (a b c d : Int) (w : World) => eqBal a b c d w
  have hGq := eqGBal
  have hb := box_below w (.cells #[.int .i64 r, .int .i64 d] 31)
  have HT := Lib.hid (h.below hb)
  have HB := Lib.hid hb
  have b1 := Blk.new w 31 #[.int .i64 r, .int .i64 d]
  have e0 := b1.cell (i := 0) (v := .int .i64 r) rfl
  have e1 := b1.cell (i := 1) (v := .int .i64 d) rfl
  have c0 := HT.out.c0
  have hlt0 := h.blk.lt
  have hVV := hV
  rw [isV_val _ _ _ h.good.n, Bool.and_eq_true, decide_eq_true_eq] at hVV
  have hv := hVV.2
  have n0 : decide ((node : Int) < 0) = false := by first | (simp; done) | (simp; omega)
  have n1 : decide ((node : Int) ≥ (s.n : Int)) = false := by simp; omega
  have hg := h.good
  clear hVV hb b1
  have HCK := Lib.hid hE
  obtain ⟨⟨kc, kv, kr, kd, kvo, ks⟩, hk⟩ : ∃ e, kget k s.L = e := ⟨_, rfl⟩
  have HK := Lib.hid hk
  rw [hk] at ho hbd ⊢
  have ho' : decide (ordB (r, d) (kr, kd) < 0) = false := by simpa using ho
  obtain ⟨_, hk0, hk1, hlen, hkb⟩ := lchk_zero hE
  have hnode : nd < s.n := by obtain ⟨a, ha, hlt⟩ := isV_node hV; omega
  have hks : ks < 2 ^ s.n := by have := hg.kset k; rwa [hk] at this
  have hns := hg.n
  obtain ⟨ss, hss⟩ : ∃ ss, ss = (if kr = r ∧ kd = d then ks else 0) := ⟨_, rfl⟩
  have hset : adSet ⟨kc, kv, kr, kd, kvo, ks⟩ r d nd = ss ||| 2 ^ nd := by unfold adSet; rw [hss]
  have hsl : ss < 2 ^ s.n := by rw [hss]; split; exact hks; exact Nat.pow_pos (by decide)
  have hs2 : ss ||| 2 ^ nd < 2 ^ s.n := bit_ltN hsl hnode
  have hnow : adNow ⟨kc, kv, kr, kd, kvo, ks⟩ r d nd s.n = (maj (ss ||| 2 ^ nd) s.n && !kc) := by unfold adNow; rw [hset]
  have hKn : adKn ⟨kc, kv, kr, kd, kvo, ks⟩ r d nd s.n v = ⟨kc || (maj (ss ||| 2 ^ nd) s.n && !kc), if (maj (ss ||| 2 ^ nd) s.n && !kc) = true then v else kv, r, d, v, ss ||| 2 ^ nd⟩ := by unfold adKn; rw [hnow, hset]
  have hcv : kc = true → v = kv := fun hc => Classical.byContradiction fun hne => hbd (.inr ⟨hc, hne⟩)
  have hvo : kr = r ∧ kd = d → v = kvo := fun he => Classical.byContradiction fun hne => hbd (.inl ⟨he.1, he.2, hne⟩)
  have h0c : kc = false → kv = ⟨#[]⟩ := fun hc => by
    cases hq : get k s.L with
    | none => unfold kget at hk; rw [hq] at hk; simp [kn0] at hk; exact hk.2.1.symm
    | some e0 =>
      unfold kget at hk
      rw [hq] at hk
      simp at hk
      have := hg.none0 (k, e0) (get_mem hq)
      rw [hk] at this
      exact this hc
  have HGD : Hid (LGood { s with L := put k ⟨kc || (maj (ss ||| 2 ^ nd) s.n && !kc), if (maj (ss ||| 2 ^ nd) s.n && !kc) = true then v else kv, r, d, v, ss ||| 2 ^ nd⟩ s.L }) := by
    refine hg.puts ⟨hkb, hk1⟩ hs2 fun hf => ?_
    simp only [Bool.or_eq_false_iff] at hf
    simp only [hf.2]
    exact h0c hf.1
  rw [hnow, hKn]
  obtain ⟨s2, hss2⟩ : ∃ s2, ss ||| 2 ^ nd = s2 := ⟨_, rfl⟩
  have HSE := Lib.hid hss2
  rw [hss2] at hs2 HGD ⊢
  obtain ⟨E, hEd⟩ : ∃ E : Kn, E = ⟨kc || (maj s2 s.n && !kc), if (maj s2 s.n && !kc) = true then v else kv, r, d, v, s2⟩ := ⟨_, rfl⟩
  obtain ⟨nw, hnw⟩ : ∃ nw : Bool, nw = (maj s2 s.n && !kc) := ⟨_, rfl⟩
  rw [← hEd] at HGD ⊢
  rw [← hnw]
  have HED := Lib.hid hEd
  have HNW := Lib.hid hnw
  have HS2 := Lib.hid hs2
  have HSL := Lib.hid hsl
  have HSS := Lib.hid hss
  have HCV := Lib.hid hcv
  have HVO := Lib.hid hvo
  have hs128 : s2 < 128 := Nat.lt_of_lt_of_le hs2 (Nat.le_trans (Nat.pow_le_pow_right (by decide) hns.2) (by decide))
  clear h hE hV hg hk ho hbd hset hsl hs2 hnow hKn hss2 hss hcv hvo h0c hks hnd hEd hnw
  go_enter Try.func22, Try.ntmps22
  go_wp2_with fail
  refine wp_region_held_drew (S := (fun W => W.cell? ⟨w.heap.size, 0, none⟩ = some (.int .i64 r) ∧ W.cell? ⟨w.heap.size, 1, none⟩ = some (.int .i64 d) ∧ W.cell? ⟨p, 0, none⟩ = some (.int .i64 (s.n : Int)))) (by kernel_rfl) ?_ (fun hHeld => ?_)
  · exact ⟨by assumption, by assumption, by assumption⟩
  try dsimp only at hHeld
  refine held_yes (i := 0) (some 15) (v := ?_) rfl rfl (by kernel_rfl) (by kernel_rfl) (by kernel_rfl) (fun _ _ _ h => h) (by rfl) ?_ hHeld ?_
  rotate_left
  · (intro w hSw; (try dsimp only at hSw); go_simp; all_goals with_reducible rfl)
  try simp only [Act.put, List.setIfInBounds_toArray, List.set_cons_zero, List.set_cons_succ]
  refine held_yes (i := 1) (some 16) (v := ?_) rfl rfl (by kernel_rfl) (by kernel_rfl) (by kernel_rfl) (fun _ _ _ h => h) (by rfl) ?_ hHeld ?_
  rotate_left
  · (intro w hSw; (try dsimp only at hSw); go_simp; all_goals with_reducible rfl)
  try simp only [Act.put, List.setIfInBounds_toArray, List.set_cons_zero, List.set_cons_succ]
  refine held_yes (i := 2) (some 17) (v := ?_) rfl rfl (by kernel_rfl) (by kernel_rfl) (by kernel_rfl) (fun _ _ _ h => h) (by rfl) ?_ hHeld ?_
  rotate_left
  · (intro w hSw; (try dsimp only at hSw); go_simp; all_goals with_reducible rfl)
  try simp only [Act.put, List.setIfInBounds_toArray, List.set_cons_zero, List.set_cons_succ]
  refine held_yes (i := 3) (some 18) (v := ?_) rfl rfl (by kernel_rfl) (by kernel_rfl) (by kernel_rfl) (fun _ _ _ h => h) (by rfl) ?_ hHeld ?_
  rotate_left
  · (intro w hSw; (try dsimp only at hSw); go_simp; all_goals with_reducible rfl)
  try simp only [Act.put, List.setIfInBounds_toArray, List.set_cons_zero, List.set_cons_succ]
  refine held_yes (i := 4) (some 19) (v := ?_) rfl rfl (by kernel_rfl) (by kernel_rfl) (by kernel_rfl) (fun _ _ _ h => h) (by rfl) ?_ hHeld ?_
  rotate_left
  · (intro w hSw; (try dsimp only at hSw); go_simp; all_goals with_reducible rfl)
  try simp only [Act.put, List.setIfInBounds_toArray, List.set_cons_zero, List.set_cons_succ]
  refine held_yes (i := 5) (some 20) (v := ?_) rfl rfl (by kernel_rfl) (by kernel_rfl) (by kernel_rfl) (fun _ _ _ h => h) (by rfl) ?_ hHeld ?_
  rotate_left
  · (intro w hSw; (try dsimp only at hSw); go_simp; all_goals with_reducible rfl)
  try simp only [Act.put, List.setIfInBounds_toArray, List.set_cons_zero, List.set_cons_succ]
  refine held_yes (i := 6) (some 21) (v := ?_) rfl rfl (by kernel_rfl) (by kernel_rfl) (by kernel_rfl) (fun _ _ _ h => h) (by rfl) ?_ hHeld ?_
  rotate_left
  · (intro w hSw; (try dsimp only at hSw); go_simp; all_goals with_reducible rfl)
  try simp only [Act.put, List.setIfInBounds_toArray, List.set_cons_zero, List.set_cons_succ]
  refine held_yes (i := 7) (some 22) (v := ?_) rfl rfl (by kernel_rfl) (by kernel_rfl) (by kernel_rfl) (fun _ _ _ h => h) (by rfl) ?_ hHeld ?_
  rotate_left
  · (intro w hSw; (try dsimp only at hSw); go_simp; all_goals with_reducible rfl)
  try simp only [Act.put, List.setIfInBounds_toArray, List.set_cons_zero, List.set_cons_succ]
  refine held_yes (i := 8) (some 23) (v := ?_) rfl rfl (by kernel_rfl) (by kernel_rfl) (by kernel_rfl) (fun _ _ _ h => h) (by rfl) ?_ hHeld ?_
  rotate_left
  · (intro w hSw; (try dsimp only at hSw); go_simp; all_goals with_reducible rfl)
  try simp only [Act.put, List.setIfInBounds_toArray, List.set_cons_zero, List.set_cons_succ]
  refine held_yes (i := 9) (some 24) (v := ?_) rfl rfl (by kernel_rfl) (by kernel_rfl) (by kernel_rfl) (fun _ _ _ h => h) (by rfl) ?_ hHeld ?_
  rotate_left
  · (intro w hSw; (try dsimp only at hSw); go_simp; all_goals with_reducible rfl)
  try simp only [Act.put, List.setIfInBounds_toArray, List.set_cons_zero, List.set_cons_succ]
  refine held_yes (i := 10) (some 25) (v := ?_) rfl rfl (by kernel_rfl) (by kernel_rfl) (by kernel_rfl) (fun _ _ _ h => h) (by rfl) ?_ hHeld ?_
  rotate_left
  · (intro w hSw; (try dsimp only at hSw); go_simp; all_goals with_reducible rfl)
  try simp only [Act.put, List.setIfInBounds_toArray, List.set_cons_zero, List.set_cons_succ]
  refine held_yes (i := 11) (some 26) (v := ?_) rfl rfl (by kernel_rfl) (by kernel_rfl) (by kernel_rfl) (fun _ _ _ h => h) (by rfl) ?_ hHeld ?_
  rotate_left
  · (intro w hSw; (try dsimp only at hSw); go_simp; all_goals with_reducible rfl)
  try simp only [Act.put, List.setIfInBounds_toArray, List.set_cons_zero, List.set_cons_succ]
  refine held_yes (i := 12) (some 27) (v := ?_) rfl rfl (by kernel_rfl) (by kernel_rfl) (by kernel_rfl) (fun _ _ _ h => h) (by rfl) ?_ hHeld ?_
  rotate_left
  · (intro w hSw; (try dsimp only at hSw); go_simp; all_goals with_reducible rfl)
  try simp only [Act.put, List.setIfInBounds_toArray, List.set_cons_zero, List.set_cons_succ]
  refine held_yes (i := 13) (some 28) (v := ?_) rfl rfl (by kernel_rfl) (by kernel_rfl) (by kernel_rfl) (fun _ _ _ h => h) (by rfl) ?_ hHeld ?_
  rotate_left
  · (intro w hSw; (try dsimp only at hSw); go_simp; all_goals with_reducible rfl)
  try simp only [Act.put, List.setIfInBounds_toArray, List.set_cons_zero, List.set_cons_succ]
  refine held_yes (i := 14) (some 29) (v := ?_) rfl rfl (by kernel_rfl) (by kernel_rfl) (by kernel_rfl) (fun _ _ _ h => h) (by rfl) ?_ hHeld ?_
  rotate_left
  · (intro w hSw; (try dsimp only at hSw); go_simp; all_goals with_reducible rfl)
  try simp only [Act.put, List.setIfInBounds_toArray, List.set_cons_zero, List.set_cons_succ]
  refine held_yes (i := 15) (some 30) (v := ?_) rfl rfl (by kernel_rfl) (by kernel_rfl) (by kernel_rfl) (fun _ _ _ h => h) (by rfl) ?_ hHeld ?_
  rotate_left
  · (intro w hSw; (try dsimp only at hSw); go_simp; all_goals with_reducible rfl)
  try simp only [Act.put, List.setIfInBounds_toArray, List.set_cons_zero, List.set_cons_succ]
  refine wpAnyH_ready (rs := [16]) (by kernel_rfl) (by simp) ?_
  refine AllReadyH.cons rfl (fun K' hK' => ?_) AllReadyH.nil
  go_simp
  (go_at_call 38; refine (rlvalid_any r d s.n _).mono ?_; rw [hv]; rintro e w2 ⟨rfl, b2⟩; have b2' := bdrew b2; have q0 := bcell b2' e0; have q1 := bcell b2' e1; have q2 := bcell b2' c0; have T2 := Lib.hid (HT.out.below b2'); have B2 := Lib.hid (bchain HB.out b2'); clear b2 b2')
  go_wp2_with fail
  refine hK'.out _ _ ?_ (fun hHeld => ?_)
  · first | exact ⟨by assumption, by assumption, by assumption⟩ | go_keep
  clear hK' K'
  try dsimp only at hHeld
  try simp only [Act.put, List.setIfInBounds_toArray, List.set_cons_zero, List.set_cons_succ]
  refine held_yes (i := 17) (some 32) (v := ?_) rfl rfl (by kernel_rfl) (by kernel_rfl) (by kernel_rfl) (fun _ _ _ h => h) (by rfl) ?_ hHeld ?_
  rotate_left
  · (intro w hSw; (try dsimp only at hSw); go_simp; all_goals with_reducible rfl)
  try simp only [Act.put, List.setIfInBounds_toArray, List.set_cons_zero, List.set_cons_succ]
  refine held_yes (i := 18) (some 33) (v := ?_) rfl rfl (by kernel_rfl) (by kernel_rfl) (by kernel_rfl) (fun _ _ _ h => h) (by rfl) ?_ hHeld ?_
  rotate_left
  · (intro w hSw; (try dsimp only at hSw); go_simp; all_goals with_reducible rfl)
  try simp only [Act.put, List.setIfInBounds_toArray, List.set_cons_zero, List.set_cons_succ]
  refine wpAnyH_done (by kernel_rfl) ?_ _
  go_upto_region 7 with (first
    | (go_at_call 39; refine (rlcheck_any p s.base k v _ T2.out.c1).mono ?_; rw [HCK.out]; rintro e w' ⟨rfl, rfl⟩)
    | (go_at_call 40; refine (rlget_any p v0 s R k _ T2.out _ _ _ _ _ _ HK.out).mono ?_; rintro e w3 ⟨rfl, b3⟩; have T3 := Lib.hid (T2.out.below b3); have B3 := Lib.hid (bchain B2.out b3); have m0 := bcell b3 q0; have m1 := bcell b3 q1; clear b3))
  have hb4 := box_below w3 (.cells #[.int .i64 k, .bool kc, .string kv, .int .i64 kr, .int .i64 kd, .string kvo, .int .u64 (ks : Int)] 87)
  have T4 := Lib.hid (T3.out.below hb4)
  have B4 := Lib.hid (bchain B3.out hb4)
  have z0 := bcell hb4 m0
  have z1 := bcell hb4 m1
  have KB := Lib.hid (Blk.new w3 87 #[.int .i64 k, .bool kc, .string kv, .int .i64 kr, .int .i64 kd, .string kvo, .int .u64 (ks : Int)])
  have hrl := T3.out.rowlt
  have hplt := T3.out.blk.lt
  have hwb := B3.out.size
  have hbl : w.heap.size < w3.heap.size := by obtain ⟨o, ho, _⟩ := cells_of_cell m0; exact (Array.getElem?_eq_some_iff.1 ho).1
  generalize (w3.alloc (.cells #[.int .i64 k, .bool kc, .string kv, .int .i64 kr, .int .i64 kd, .string kvo, .int .u64 (ks : Int)] 87)) = W4 at *
  obtain ⟨kb, hkb⟩ : ∃ kb, kb = w3.heap.size := ⟨_, rfl⟩
  rw [← hkb] at KB hrl hplt hbl hwb ⊢
  obtain ⟨ba, hba⟩ : ∃ ba, ba = w.heap.size := ⟨_, rfl⟩
  rw [← hba] at z0 z1 hbl ⊢
  have HRL := Lib.hid hrl
  have hkb3 : w.heap.size ≤ kb := by omega
  have nbb : ¬ ba = kb := by omega
  have npb : ¬ p = kb := by omega
  have npa : ¬ p = ba := by omega
  clear hkb hba hb4 m0 m1 T2 B2 T3 B3 hrl hwb hplt q0 q1 q2 e0 e1 c0
  have x1 := KB.out.cell (i := 1) (v := .bool kc) rfl
  have x2 := KB.out.cell (i := 2) (v := .string kv) rfl
  have x3 := KB.out.cell (i := 3) (v := .int .i64 kr) rfl
  have x4 := KB.out.cell (i := 4) (v := .int .i64 kd) rfl
  have x5 := KB.out.cell (i := 5) (v := .string kvo) rfl
  go_upto_region 9 with (first | (go_at_call 41; refine (rlbelow_any r d kr kd _).mono ?_; rw [ho']; rintro e w5 ⟨rfl, b5⟩; have T5 := Lib.hid (T4.out.below b5); have B5 := Lib.hid (B4.out.trans (b5.mono B4.out.size)); have K5 := Lib.hid (KB.out.bel b5); have t0 := bcell b5 z0; have t1 := bcell b5 z1; have y1 := bcell b5 x1; have y2 := bcell b5 x2; have y3 := bcell b5 x3; have y4 := bcell b5 x4; have y5 := bcell b5 x5; have TB := Lib.hid (And.intro t0 t1); clear b5))
  clear z0 z1 x1 x2 x3 x4 x5 T4 B4 KB
  go_cut [67] (fun b wx => b = .bool false ∧ w5 = wx)
  case first =>
    by_cases h4 : kr = r ∧ kd = d
    · obtain rfl := HVO.out h4
      obtain ⟨rfl, rfl⟩ := h4
      cases kc with
      | true =>
        obtain rfl := HCV.out rfl
        go_wp2_with fail
        go_meet
        exact ⟨rfl, rfl⟩
      | false =>
        go_wp2_with fail
        go_meet
        exact ⟨rfl, rfl⟩
    · have hzz : (r == kr && d == kd) = false := by
        rw [Bool.eq_false_iff]
        intro hc
        simp at hc
        exact h4 ⟨hc.1.symm, hc.2.symm⟩
      have HZZ := Lib.hid hzz
      have hEz : ∀ w : World, (Op.equalIn 10000 31 (.agg #[.int .i64 r, .int .i64 d]) (.agg #[.int .i64 kr, .int .i64 kd])).run Try.prog w = .ok false w := fun w => by rw [hEq, HZZ.out]
      clear hEq hzz h4
      cases kc with
      | true =>
        obtain rfl := HCV.out rfl
        go_wp2_with fail
        go_meet
        exact ⟨rfl, rfl⟩
      | false =>
        go_wp2_with fail
        go_meet
        exact ⟨rfl, rfl⟩
  case rest =>
    obtain ⟨rfl, rfl⟩ := hcut
    have hnd := HND.out
    subst hnd
    clear HND
    clear t0 t1 y1 y2 y3 y4 y5
    have t0 := K5.out.cell (i := 3) (v := .int .i64 kr) rfl
    have t1 := K5.out.cell (i := 4) (v := .int .i64 kd) rfl
    have t2 := TB.out.1
    have t3 := TB.out.2
    have t4 := K5.out.cell (i := 5) (v := .string kvo) rfl
    have t5 := K5.out.cell (i := 6) (v := .int .u64 (ks : Int)) rfl
    obtain ⟨sm, hsm⟩ : ∃ sm, (r == kr && d == kd) = sm := ⟨_, rfl⟩
    have HSM := Lib.hid hsm
    have hEz : ∀ w : World, (Op.equalIn 10000 31 (.agg #[.int .i64 r, .int .i64 d]) (.agg #[.int .i64 kr, .int .i64 kd])).run Try.prog w = .ok sm w := fun w => by rw [hEq, hsm]
    clear hEq hsm
    go_upto_if 71 with fail
    go_cut [] (fun wx => Blk wx kb 87 #[.int .i64 k, .bool kc, .string kv, .int .i64 r, .int .i64 d, .string v, .int .u64 (ss : Int)] ∧ Fr (S1 kb) w5 wx)
    case first =>
      have hfz := fun i => K5.out.frozen i
      have hss := HSS.out
      cases sm with
      | true =>
        have h4 : kr = r ∧ kd = d := by have h := HSM.out; simp at h; exact ⟨h.1.symm, h.2.symm⟩
        obtain rfl := HVO.out h4
        obtain ⟨rfl, rfl⟩ := h4
        rw [if_pos ⟨rfl, rfl⟩] at hss
        subst hss
        go_wp2_with fail
        go_meet
        exact ⟨K5.out, Fr.refl _ _⟩
      | false =>
        rw [if_neg (fun h4 => by have h := HSM.out; rw [h4.1, h4.2] at h; simp at h)] at hss
        subst hss
        go_wp2_with fail
        go_meet
        exact ⟨(((K5.out.set 3 (.int .i64 r)).set 4 (.int .i64 d)).set 5 (.string v)).set 6 (.int .u64 0), frK7 w5 kb _ _ _ _⟩
    case rest =>
      obtain ⟨kw, fw⟩ := hcut
      obtain ⟨w6, rfl⟩ : ∃ w6 : World, w6 = wc := ⟨_, rfl⟩
      have K6 := Lib.hid kw
      have T6 := Lib.hid (T5.out.fr fw npb (fun g hg e => by have := HRL.out g hg; have e : g = kb := e; omega))
      have B6 := Lib.hid (Fr.upB B5.out fw (fun i e => by have e : i = kb := e; omega))
      have y5 := kw.cell (i := 6) (v := .int .u64 (ss : Int)) rfl
      have yz := kw.frozen 6
      clear kw fw t0 t1 t2 t3 t4 t5
      go_upto_region 15 with fail
      go_still_tail 6, (by kernel_rfl)
      go_upto_region 16 with fail
      have hv6 := bitorN hns HSL.out hnode
      rw [hv6, HSE.out]
      clear hv6
      have f7 : Fr (S1 kb) w6 (w6.setCell ⟨kb, 6, none⟩ (.int .u64 (s2 : Int))).drew := (((Fr.refl (S1 kb) w6).setCell (p := ⟨kb, 6, none⟩) (.inl (show S1 kb kb from rfl)) _)).drew
      have K7 : Hid (Blk (w6.setCell ⟨kb, 6, none⟩ (.int .u64 (s2 : Int))).drew kb 87 #[.int .i64 k, .bool kc, .string kv, .int .i64 r, .int .i64 d, .string v, .int .u64 (s2 : Int)]) := K6.out.set 6 (.int .u64 (s2 : Int))
      have T7 := Lib.hid (T6.out.fr f7 npb (fun g hg e => by have := HRL.out g hg; have e : g = kb := e; omega))
      have B7 := Lib.hid (Fr.upB B6.out f7 (fun i e => by have e : i = kb := e; omega))
      clear f7 y5 yz K6 T6 B6 T5 B5 K5
      generalize (w6.setCell ⟨kb, 6, none⟩ (.int .u64 (s2 : Int))).drew = W7 at *
      have x6 := K7.out.cell (i := 6) (v := .int .u64 (s2 : Int)) rfl
      have x1 := K7.out.cell (i := 1) (v := .bool kc) rfl
      have x0 := T7.out.c0
      have hp7 : pop s2 ≤ 7 := by rw [← popN_64 s2 hs128]; rw [popN_64 s2 hs128]; unfold pop; exact Nat.le_trans List.countP_le_length (by simp)
      have hm2 : decide ((s.n : Int) < IntKind.i64.wrap (2 * (pop s2 : Int))) = maj s2 s.n := by
        rw [show IntKind.i64.wrap (2 * (pop s2 : Int)) = 2 * (pop s2 : Int) from IntWalk.i64_in _ (by omega)]
        unfold maj
        rw [Bool.eq_iff_iff]
        simp
        omega
      cases kc with
      | true =>
        clear hm2
        go_wp2_with fail
        refine wp_region_held_drew (S := (fun W => W.cell? ⟨kb, 1, none⟩ = some (.bool true) ∧ W.cell? ⟨kb, 6, none⟩ = some (.int .u64 (s2 : Int)) ∧ W.cell? ⟨p, 0, none⟩ = some (.int .i64 (s.n : Int)))) (by kernel_rfl) ?_ (fun hHeld => ?_)
        · exact ⟨by assumption, by assumption, by assumption⟩
        try dsimp only at hHeld
        refine held_yes (i := 0) (some 83) (v := ?_) rfl rfl (by kernel_rfl) (by kernel_rfl) (by kernel_rfl) (fun _ _ _ h => h) (by rfl) ?_ hHeld ?_
        rotate_left
        · (intro w hSw; (try dsimp only at hSw); go_simp; all_goals with_reducible rfl)
        try simp only [Act.put, List.setIfInBounds_toArray, List.set_cons_zero, List.set_cons_succ]
        refine held_yes (i := 1) (some 84) (v := ?_) rfl rfl (by kernel_rfl) (by kernel_rfl) (by kernel_rfl) (fun _ _ _ h => h) (by rfl) ?_ hHeld ?_
        rotate_left
        · (intro w hSw; (try dsimp only at hSw); go_simp; all_goals with_reducible rfl)
        try simp only [Act.put, List.setIfInBounds_toArray, List.set_cons_zero, List.set_cons_succ]
        refine held_yes (i := 2) (some 85) (v := ?_) rfl rfl (by kernel_rfl) (by kernel_rfl) (by kernel_rfl) (fun _ _ _ h => h) (by rfl) ?_ hHeld ?_
        rotate_left
        · (intro w hSw; (try dsimp only at hSw); go_simp; all_goals with_reducible rfl)
        try simp only [Act.put, List.setIfInBounds_toArray, List.set_cons_zero, List.set_cons_succ]
        refine held_yes (i := 3) (some 86) (v := ?_) rfl rfl (by kernel_rfl) (by kernel_rfl) (by kernel_rfl) (fun _ _ _ h => h) (by rfl) ?_ hHeld ?_
        rotate_left
        · (intro w hSw; (try dsimp only at hSw); go_simp; all_goals with_reducible rfl)
        try simp only [Act.put, List.setIfInBounds_toArray, List.set_cons_zero, List.set_cons_succ]
        refine held_no (i := 4) (some 87) rfl rfl (by kernel_rfl) (by kernel_rfl) (by kernel_rfl) (fun _ _ _ h => h) (wanted_t rfl rfl rfl) hHeld ?_
        try simp only [Act.put, List.setIfInBounds_toArray, List.set_cons_zero, List.set_cons_succ]
        refine held_no (i := 5) (some 88) rfl rfl (by kernel_rfl) (by kernel_rfl) (by kernel_rfl) (fun _ _ _ h => h) (wanted_t rfl rfl rfl) hHeld ?_
        try simp only [Act.put, List.setIfInBounds_toArray, List.set_cons_zero, List.set_cons_succ]
        refine held_no (i := 6) (some 89) rfl rfl (by kernel_rfl) (by kernel_rfl) (by kernel_rfl) (fun _ _ _ h => h) (wanted_t rfl rfl rfl) hHeld ?_
        try simp only [Act.put, List.setIfInBounds_toArray, List.set_cons_zero, List.set_cons_succ]
        refine held_no (i := 7) (some 90) rfl rfl (by kernel_rfl) (by kernel_rfl) (by kernel_rfl) (fun _ _ _ h => h) (wanted_t rfl rfl rfl) hHeld ?_
        try simp only [Act.put, List.setIfInBounds_toArray, List.set_cons_zero, List.set_cons_succ]
        refine held_no (i := 8) (some 91) rfl rfl (by kernel_rfl) (by kernel_rfl) (by kernel_rfl) (fun _ _ _ h => h) (wanted_t rfl rfl rfl) hHeld ?_
        try simp only [Act.put, List.setIfInBounds_toArray, List.set_cons_zero, List.set_cons_succ]
        refine held_no (i := 9) (some 92) rfl rfl (by kernel_rfl) (by kernel_rfl) (by kernel_rfl) (fun _ _ _ h => h) (wanted_t rfl rfl rfl) hHeld ?_
        try simp only [Act.put, List.setIfInBounds_toArray, List.set_cons_zero, List.set_cons_succ]
        refine held_no (i := 10) (some 93) rfl rfl (by kernel_rfl) (by kernel_rfl) (by kernel_rfl) (fun _ _ _ h => h) (wanted_t rfl rfl rfl) hHeld ?_
        try simp only [Act.put, List.setIfInBounds_toArray, List.set_cons_zero, List.set_cons_succ]
        refine held_no (i := 11) (some 94) rfl rfl (by kernel_rfl) (by kernel_rfl) (by kernel_rfl) (fun _ _ _ h => h) (wanted_t rfl rfl rfl) hHeld ?_
        try simp only [Act.put, List.setIfInBounds_toArray, List.set_cons_zero, List.set_cons_succ]
        refine held_no (i := 12) (some 95) rfl rfl (by kernel_rfl) (by kernel_rfl) (by kernel_rfl) (fun _ _ _ h => h) (wanted_t rfl rfl rfl) hHeld ?_
        try simp only [Act.put, List.setIfInBounds_toArray, List.set_cons_zero, List.set_cons_succ]
        refine held_yes (i := 13) (some 96) (v := ?_) rfl rfl (by kernel_rfl) (by kernel_rfl) (by kernel_rfl) (fun _ _ _ h => h) (by rfl) ?_ hHeld ?_
        rotate_left
        · (intro w hSw; (try dsimp only at hSw); go_simp; all_goals with_reducible rfl)
        try simp only [Act.put, List.setIfInBounds_toArray, List.set_cons_zero, List.set_cons_succ]
        refine held_yes (i := 14) (some 14) (v := ?_) rfl rfl (by kernel_rfl) (by kernel_rfl) (by kernel_rfl) (fun _ _ _ h => h) (by rfl) ?_ hHeld ?_
        rotate_left
        · (intro w hSw; (try dsimp only at hSw); go_simp; all_goals with_reducible rfl)
        try simp only [Act.put, List.setIfInBounds_toArray, List.set_cons_zero, List.set_cons_succ]
        refine wpAnyH_done (by kernel_rfl) ?_ _
        have K8 : Hid (Blk W7.drew kb 87 #[.int .i64 k, .bool true, .string kv, .int .i64 r, .int .i64 d, .string v, .int .u64 (s2 : Int)]) := K7
        have T8 : Hid (RLAt W7.drew p v0 s R) := T7.out.drew
        have B8 : Hid (Below w.heap.size w W7.drew) := B7.out.drew
        clear x1 x6 x0
        generalize W7.drew = W8 at *
        have k0 := K8.out.cell (i := 0) (v := .int .i64 k) rfl
        have k1 := K8.out.cell (i := 1) (v := .bool true) rfl
        have k2 := K8.out.cell (i := 2) (v := .string kv) rfl
        have k3 := K8.out.cell (i := 3) (v := .int .i64 r) rfl
        have k4 := K8.out.cell (i := 4) (v := .int .i64 d) rfl
        have k5 := K8.out.cell (i := 5) (v := .string v) rfl
        have k6 := K8.out.cell (i := 6) (v := .int .u64 (s2 : Int)) rfl
        have hE0 := HED.out
        rw [show (maj s2 s.n && !true) = false by simp] at hE0
        have hn0 := HNW.out
        rw [show (maj s2 s.n && !true) = false by simp] at hn0
        simp only [Bool.or_false, Bool.false_or, Bool.or_true, Bool.true_or, Bool.false_eq_true, if_false, if_true] at hE0
        subst hn0
        subst hE0
        go_wp2_with (first
          | (go_at_call 43; refine (rlset_any p v0 s R k true kv r d v s2 _ T8.out HGD.out).mono ?_; rintro e w9 ⟨rfl, v9, R9, t9, f9⟩; have T9 := Lib.hid t9; have F9 := Lib.hid f9; clear t9 f9))
        go_returns
        exact ⟨rfl, _, _, T9.out, (Fr.of_below B8.out).trans F9.out⟩
      | false =>
        cases hmj : maj s2 s.n with
        | false =>
          rw [hmj] at hm2
          go_wp2_with fail
          refine wp_region_held_drew (S := (fun W => W.cell? ⟨kb, 1, none⟩ = some (.bool false) ∧ W.cell? ⟨kb, 6, none⟩ = some (.int .u64 (s2 : Int)) ∧ W.cell? ⟨p, 0, none⟩ = some (.int .i64 (s.n : Int)))) (by kernel_rfl) ?_ (fun hHeld => ?_)
          · exact ⟨by assumption, by assumption, by assumption⟩
          try dsimp only at hHeld
          refine held_yes (i := 0) (some 83) (v := ?_) rfl rfl (by kernel_rfl) (by kernel_rfl) (by kernel_rfl) (fun _ _ _ h => h) (by rfl) ?_ hHeld ?_
          rotate_left
          · (intro w hSw; (try dsimp only at hSw); go_simp; all_goals with_reducible rfl)
          try simp only [Act.put, List.setIfInBounds_toArray, List.set_cons_zero, List.set_cons_succ]
          refine held_yes (i := 1) (some 84) (v := ?_) rfl rfl (by kernel_rfl) (by kernel_rfl) (by kernel_rfl) (fun _ _ _ h => h) (by rfl) ?_ hHeld ?_
          rotate_left
          · (intro w hSw; (try dsimp only at hSw); go_simp; all_goals with_reducible rfl)
          try simp only [Act.put, List.setIfInBounds_toArray, List.set_cons_zero, List.set_cons_succ]
          refine held_yes (i := 2) (some 85) (v := ?_) rfl rfl (by kernel_rfl) (by kernel_rfl) (by kernel_rfl) (fun _ _ _ h => h) (by rfl) ?_ hHeld ?_
          rotate_left
          · (intro w hSw; (try dsimp only at hSw); go_simp; all_goals with_reducible rfl)
          try simp only [Act.put, List.setIfInBounds_toArray, List.set_cons_zero, List.set_cons_succ]
          refine held_yes (i := 3) (some 86) (v := ?_) rfl rfl (by kernel_rfl) (by kernel_rfl) (by kernel_rfl) (fun _ _ _ h => h) (by rfl) ?_ hHeld ?_
          rotate_left
          · (intro w hSw; (try dsimp only at hSw); go_simp; all_goals with_reducible rfl)
          try simp only [Act.put, List.setIfInBounds_toArray, List.set_cons_zero, List.set_cons_succ]
          refine held_yes (i := 4) (some 87) (v := ?_) rfl rfl (by kernel_rfl) (by kernel_rfl) (by kernel_rfl) (fun _ _ _ h => h) (by rfl) ?_ hHeld ?_
          rotate_left
          · (intro w hSw; (try dsimp only at hSw); go_simp; all_goals with_reducible rfl)
          try simp only [Act.put, List.setIfInBounds_toArray, List.set_cons_zero, List.set_cons_succ]
          refine held_yes (i := 5) (some 88) (v := ?_) rfl rfl (by kernel_rfl) (by kernel_rfl) (by kernel_rfl) (fun _ _ _ h => h) (by rfl) ?_ hHeld ?_
          rotate_left
          · (intro w hSw; (try dsimp only at hSw); go_simp; all_goals with_reducible rfl)
          try simp only [Act.put, List.setIfInBounds_toArray, List.set_cons_zero, List.set_cons_succ]
          refine held_yes (i := 8) (some 91) (v := ?_) rfl rfl (by kernel_rfl) (by kernel_rfl) (by kernel_rfl) (fun _ _ _ h => h) (by rfl) ?_ hHeld ?_
          rotate_left
          · (intro w hSw; (try dsimp only at hSw); go_simp; all_goals with_reducible rfl)
          try simp only [Act.put, List.setIfInBounds_toArray, List.set_cons_zero, List.set_cons_succ]
          refine held_yes (i := 9) (some 92) (v := ?_) rfl rfl (by kernel_rfl) (by kernel_rfl) (by kernel_rfl) (fun _ _ _ h => h) (by rfl) ?_ hHeld ?_
          rotate_left
          · (intro w hSw; (try dsimp only at hSw); go_simp; all_goals with_reducible rfl)
          try simp only [Act.put, List.setIfInBounds_toArray, List.set_cons_zero, List.set_cons_succ]
          refine held_yes (i := 10) (some 93) (v := ?_) rfl rfl (by kernel_rfl) (by kernel_rfl) (by kernel_rfl) (fun _ _ _ h => h) (by rfl) ?_ hHeld ?_
          rotate_left
          · (intro w hSw; (try dsimp only at hSw); go_simp; all_goals with_reducible rfl)
          try simp only [Act.put, List.setIfInBounds_toArray, List.set_cons_zero, List.set_cons_succ]
          refine held_yes (i := 11) (some 94) (v := ?_) rfl rfl (by kernel_rfl) (by kernel_rfl) (by kernel_rfl) (fun _ _ _ h => h) (by rfl) ?_ hHeld ?_
          rotate_left
          · (intro w hSw; (try dsimp only at hSw); go_simp; all_goals with_reducible rfl)
          try simp only [Act.put, List.setIfInBounds_toArray, List.set_cons_zero, List.set_cons_succ]
          refine wpAnyH_ready (rs := [6]) (by kernel_rfl) (by simp) ?_
          refine AllReadyH.cons rfl (fun K' hK' => ?_) AllReadyH.nil
          go_simp
          (go_at_call 42; refine (rlsize_any s2 _ hs128).mono ?_; rintro e w' ⟨rfl, rfl⟩)
          go_wp2_with fail
          refine hK'.out _ _ ?_ (fun hHeld => ?_)
          · first | exact ⟨by assumption, by assumption, by assumption⟩ | go_keep
          clear hK' K'
          try dsimp only at hHeld
          try simp only [Act.put, List.setIfInBounds_toArray, List.set_cons_zero, List.set_cons_succ]
          refine held_yes (i := 7) (some 90) (v := ?_) rfl rfl (by kernel_rfl) (by kernel_rfl) (by kernel_rfl) (fun _ _ _ h => h) (by rfl) ?_ hHeld ?_
          rotate_left
          · (intro w hSw; (try dsimp only at hSw); go_simp; all_goals with_reducible rfl)
          try simp only [Act.put, List.setIfInBounds_toArray, List.set_cons_zero, List.set_cons_succ]
          refine held_yes (i := 12) (some 95) (v := ?_) rfl rfl (by kernel_rfl) (by kernel_rfl) (by kernel_rfl) (fun _ _ _ h => h) (by rfl) ?_ hHeld ?_
          rotate_left
          · (intro w hSw; (try dsimp only at hSw); go_simp; all_goals with_reducible rfl)
          try simp only [Act.put, List.setIfInBounds_toArray, List.set_cons_zero, List.set_cons_succ]
          refine held_yes (i := 13) (some 96) (v := ?_) rfl rfl (by kernel_rfl) (by kernel_rfl) (by kernel_rfl) (fun _ _ _ h => h) (by rfl) ?_ hHeld ?_
          rotate_left
          · (intro w hSw; (try dsimp only at hSw); go_simp; all_goals with_reducible rfl)
          try simp only [Act.put, List.setIfInBounds_toArray, List.set_cons_zero, List.set_cons_succ]
          refine held_yes (i := 14) (some 14) (v := ?_) rfl rfl (by kernel_rfl) (by kernel_rfl) (by kernel_rfl) (fun _ _ _ h => h) (by rfl) ?_ hHeld ?_
          rotate_left
          · (intro w hSw; (try dsimp only at hSw); go_simp; all_goals with_reducible rfl)
          try simp only [Act.put, List.setIfInBounds_toArray, List.set_cons_zero, List.set_cons_succ]
          refine wpAnyH_done (by kernel_rfl) ?_ _
          have K8 : Hid (Blk W7.drew kb 87 #[.int .i64 k, .bool false, .string kv, .int .i64 r, .int .i64 d, .string v, .int .u64 (s2 : Int)]) := K7
          have T8 : Hid (RLAt W7.drew p v0 s R) := T7.out.drew
          have B8 : Hid (Below w.heap.size w W7.drew) := B7.out.drew
          clear x1 x6 x0
          generalize W7.drew = W8 at *
          have k0 := K8.out.cell (i := 0) (v := .int .i64 k) rfl
          have k1 := K8.out.cell (i := 1) (v := .bool false) rfl
          have k2 := K8.out.cell (i := 2) (v := .string kv) rfl
          have k3 := K8.out.cell (i := 3) (v := .int .i64 r) rfl
          have k4 := K8.out.cell (i := 4) (v := .int .i64 d) rfl
          have k5 := K8.out.cell (i := 5) (v := .string v) rfl
          have k6 := K8.out.cell (i := 6) (v := .int .u64 (s2 : Int)) rfl
          have hE0 := HED.out
          rw [show (maj s2 s.n && !false) = false by rw [hmj]; rfl] at hE0
          have hn0 := HNW.out
          rw [show (maj s2 s.n && !false) = false by rw [hmj]; rfl] at hn0
          simp only [Bool.or_false, Bool.false_or, Bool.or_true, Bool.true_or, Bool.false_eq_true, if_false, if_true] at hE0
          subst hn0
          subst hE0
          go_wp2_with (first
            | (go_at_call 43; refine (rlset_any p v0 s R k false kv r d v s2 _ T8.out HGD.out).mono ?_; rintro e w9 ⟨rfl, v9, R9, t9, f9⟩; have T9 := Lib.hid t9; have F9 := Lib.hid f9; clear t9 f9))
          go_returns
          exact ⟨rfl, _, _, T9.out, (Fr.of_below B8.out).trans F9.out⟩
        | true =>
          rw [hmj] at hm2
          go_wp2_with fail
          refine wp_region_held_drew (S := (fun W => W.cell? ⟨kb, 1, none⟩ = some (.bool false) ∧ W.cell? ⟨kb, 6, none⟩ = some (.int .u64 (s2 : Int)) ∧ W.cell? ⟨p, 0, none⟩ = some (.int .i64 (s.n : Int)))) (by kernel_rfl) ?_ (fun hHeld => ?_)
          · exact ⟨by assumption, by assumption, by assumption⟩
          try dsimp only at hHeld
          refine held_yes (i := 0) (some 83) (v := ?_) rfl rfl (by kernel_rfl) (by kernel_rfl) (by kernel_rfl) (fun _ _ _ h => h) (by rfl) ?_ hHeld ?_
          rotate_left
          · (intro w hSw; (try dsimp only at hSw); go_simp; all_goals with_reducible rfl)
          try simp only [Act.put, List.setIfInBounds_toArray, List.set_cons_zero, List.set_cons_succ]
          refine held_yes (i := 1) (some 84) (v := ?_) rfl rfl (by kernel_rfl) (by kernel_rfl) (by kernel_rfl) (fun _ _ _ h => h) (by rfl) ?_ hHeld ?_
          rotate_left
          · (intro w hSw; (try dsimp only at hSw); go_simp; all_goals with_reducible rfl)
          try simp only [Act.put, List.setIfInBounds_toArray, List.set_cons_zero, List.set_cons_succ]
          refine held_yes (i := 2) (some 85) (v := ?_) rfl rfl (by kernel_rfl) (by kernel_rfl) (by kernel_rfl) (fun _ _ _ h => h) (by rfl) ?_ hHeld ?_
          rotate_left
          · (intro w hSw; (try dsimp only at hSw); go_simp; all_goals with_reducible rfl)
          try simp only [Act.put, List.setIfInBounds_toArray, List.set_cons_zero, List.set_cons_succ]
          refine held_yes (i := 3) (some 86) (v := ?_) rfl rfl (by kernel_rfl) (by kernel_rfl) (by kernel_rfl) (fun _ _ _ h => h) (by rfl) ?_ hHeld ?_
          rotate_left
          · (intro w hSw; (try dsimp only at hSw); go_simp; all_goals with_reducible rfl)
          try simp only [Act.put, List.setIfInBounds_toArray, List.set_cons_zero, List.set_cons_succ]
          refine held_yes (i := 4) (some 87) (v := ?_) rfl rfl (by kernel_rfl) (by kernel_rfl) (by kernel_rfl) (fun _ _ _ h => h) (by rfl) ?_ hHeld ?_
          rotate_left
          · (intro w hSw; (try dsimp only at hSw); go_simp; all_goals with_reducible rfl)
          try simp only [Act.put, List.setIfInBounds_toArray, List.set_cons_zero, List.set_cons_succ]
          refine held_yes (i := 5) (some 88) (v := ?_) rfl rfl (by kernel_rfl) (by kernel_rfl) (by kernel_rfl) (fun _ _ _ h => h) (by rfl) ?_ hHeld ?_
          rotate_left
          · (intro w hSw; (try dsimp only at hSw); go_simp; all_goals with_reducible rfl)
          try simp only [Act.put, List.setIfInBounds_toArray, List.set_cons_zero, List.set_cons_succ]
          refine held_yes (i := 8) (some 91) (v := ?_) rfl rfl (by kernel_rfl) (by kernel_rfl) (by kernel_rfl) (fun _ _ _ h => h) (by rfl) ?_ hHeld ?_
          rotate_left
          · (intro w hSw; (try dsimp only at hSw); go_simp; all_goals with_reducible rfl)
          try simp only [Act.put, List.setIfInBounds_toArray, List.set_cons_zero, List.set_cons_succ]
          refine held_yes (i := 9) (some 92) (v := ?_) rfl rfl (by kernel_rfl) (by kernel_rfl) (by kernel_rfl) (fun _ _ _ h => h) (by rfl) ?_ hHeld ?_
          rotate_left
          · (intro w hSw; (try dsimp only at hSw); go_simp; all_goals with_reducible rfl)
          try simp only [Act.put, List.setIfInBounds_toArray, List.set_cons_zero, List.set_cons_succ]
          refine held_yes (i := 10) (some 93) (v := ?_) rfl rfl (by kernel_rfl) (by kernel_rfl) (by kernel_rfl) (fun _ _ _ h => h) (by rfl) ?_ hHeld ?_
          rotate_left
          · (intro w hSw; (try dsimp only at hSw); go_simp; all_goals with_reducible rfl)
          try simp only [Act.put, List.setIfInBounds_toArray, List.set_cons_zero, List.set_cons_succ]
          refine held_yes (i := 11) (some 94) (v := ?_) rfl rfl (by kernel_rfl) (by kernel_rfl) (by kernel_rfl) (fun _ _ _ h => h) (by rfl) ?_ hHeld ?_
          rotate_left
          · (intro w hSw; (try dsimp only at hSw); go_simp; all_goals with_reducible rfl)
          try simp only [Act.put, List.setIfInBounds_toArray, List.set_cons_zero, List.set_cons_succ]
          refine wpAnyH_ready (rs := [6]) (by kernel_rfl) (by simp) ?_
          refine AllReadyH.cons rfl (fun K' hK' => ?_) AllReadyH.nil
          go_simp
          (go_at_call 42; refine (rlsize_any s2 _ hs128).mono ?_; rintro e w' ⟨rfl, rfl⟩)
          go_wp2_with fail
          refine hK'.out _ _ ?_ (fun hHeld => ?_)
          · first | exact ⟨by assumption, by assumption, by assumption⟩ | go_keep
          clear hK' K'
          try dsimp only at hHeld
          try simp only [Act.put, List.setIfInBounds_toArray, List.set_cons_zero, List.set_cons_succ]
          refine held_yes (i := 7) (some 90) (v := ?_) rfl rfl (by kernel_rfl) (by kernel_rfl) (by kernel_rfl) (fun _ _ _ h => h) (by rfl) ?_ hHeld ?_
          rotate_left
          · (intro w hSw; (try dsimp only at hSw); go_simp; all_goals with_reducible rfl)
          try simp only [Act.put, List.setIfInBounds_toArray, List.set_cons_zero, List.set_cons_succ]
          refine held_yes (i := 12) (some 95) (v := ?_) rfl rfl (by kernel_rfl) (by kernel_rfl) (by kernel_rfl) (fun _ _ _ h => h) (by rfl) ?_ hHeld ?_
          rotate_left
          · (intro w hSw; (try dsimp only at hSw); go_simp; all_goals with_reducible rfl)
          try simp only [Act.put, List.setIfInBounds_toArray, List.set_cons_zero, List.set_cons_succ]
          refine held_yes (i := 13) (some 96) (v := ?_) rfl rfl (by kernel_rfl) (by kernel_rfl) (by kernel_rfl) (fun _ _ _ h => h) (by rfl) ?_ hHeld ?_
          rotate_left
          · (intro w hSw; (try dsimp only at hSw); go_simp; all_goals with_reducible rfl)
          try simp only [Act.put, List.setIfInBounds_toArray, List.set_cons_zero, List.set_cons_succ]
          refine held_yes (i := 14) (some 14) (v := ?_) rfl rfl (by kernel_rfl) (by kernel_rfl) (by kernel_rfl) (fun _ _ _ h => h) (by rfl) ?_ hHeld ?_
          rotate_left
          · (intro w hSw; (try dsimp only at hSw); go_simp; all_goals with_reducible rfl)
          try simp only [Act.put, List.setIfInBounds_toArray, List.set_cons_zero, List.set_cons_succ]
          refine wpAnyH_done (by kernel_rfl) ?_ _
          have K8 : Hid (Blk W7.drew kb 87 #[.int .i64 k, .bool false, .string kv, .int .i64 r, .int .i64 d, .string v, .int .u64 (s2 : Int)]) := K7
          have T8 : Hid (RLAt W7.drew p v0 s R) := T7.out.drew
          have B8 : Hid (Below w.heap.size w W7.drew) := B7.out.drew
          clear x1 x6 x0
          generalize W7.drew = W8 at *
          have k0 := K8.out.cell (i := 0) (v := .int .i64 k) rfl
          have k1 := K8.out.cell (i := 1) (v := .bool false) rfl
          have k2 := K8.out.cell (i := 2) (v := .string kv) rfl
          have k3 := K8.out.cell (i := 3) (v := .int .i64 r) rfl
          have k4 := K8.out.cell (i := 4) (v := .int .i64 d) rfl
          have k5 := K8.out.cell (i := 5) (v := .string v) rfl
          have k6 := K8.out.cell (i := 6) (v := .int .u64 (s2 : Int)) rfl
          have hE0 := HED.out
          rw [show (maj s2 s.n && !false) = true by rw [hmj]; rfl] at hE0
          have hn0 := HNW.out
          rw [show (maj s2 s.n && !false) = true by rw [hmj]; rfl] at hn0
          simp only [Bool.or_false, Bool.false_or, Bool.or_true, Bool.true_or, Bool.false_eq_true, if_false, if_true] at hE0
          subst hn0
          subst hE0
          have kz1 := K8.out.frozen 1
          have kz2 := K8.out.frozen 2
          have f9 : Fr (S1 kb) W8 ((W8.setCell ⟨kb, 1, none⟩ (.bool true)).setCell ⟨kb, 2, none⟩ (.string v)) := ((Fr.refl (S1 kb) W8).setCell (p := ⟨kb, 1, none⟩) (.inl (show S1 kb kb from rfl)) _).setCell (p := ⟨kb, 2, none⟩) (.inl (show S1 kb kb from rfl)) _
          have TA := Lib.hid (T8.out.fr f9 npb (fun g hg e => by have := HRL.out g hg; have e : g = kb := e; omega))
          have BA := Lib.hid (Fr.upB B8.out f9 (fun i e => by have e : i = kb := e; omega))
          clear f9
          go_wp2_with (first
            | (go_at_call 43; refine (rlset_any p v0 s R k true v r d v s2 _ TA.out HGD.out).mono ?_; rintro e w9 ⟨rfl, v9, R9, t9, f9⟩; have T9 := Lib.hid t9; have F9 := Lib.hid f9; clear t9 f9))
          go_returns
          exact ⟨rfl, _, _, T9.out, (Fr.of_below BA.out).trans F9.out⟩
  end Go.Proofs.Ytnnadpbfidfhoaa
