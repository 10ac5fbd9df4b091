/- Package learn: Add, a vote that counts. -/
import Derived.Test.YtnnadpbfidfhoaaLearnF
set_option linter.unusedVariables false
set_option linter.unusedSimpArgs false
namespace Go.Proofs.Ytnnadpbfidfhoaa
open Go.RowKit Go.Maps Go.Shelf
theorem frK (w : World) (kb : Nat) (a b c d : Value) : Fr (S1 kb) w ((((w.setCell ⟨kb, 2, none⟩ a).setCell ⟨kb, 3, none⟩ b).setCell ⟨kb, 4, none⟩ c).setCell ⟨kb, 5, none⟩ d) :=
  ((((Fr.refl (S1 kb) w).setCell (p := ⟨kb, 2, none⟩) (.inl (show S1 kb kb from rfl)) _).setCell (p := ⟨kb, 3, none⟩) (.inl (show S1 kb kb from rfl)) _).setCell (p := ⟨kb, 4, none⟩) (.inl (show S1 kb kb from rfl)) _).setCell (p := ⟨kb, 5, none⟩) (.inl (show S1 kb kb from rfl)) _
theorem bchainSz {a b : World} (h : Below a.heap.size a b) : a.heap.size ≤ b.heap.size := h.size
set_option maxRecDepth 100000 in
set_option maxHeartbeats 4000000 in
theorem add_yes (p m : Nat) (s : LSt) (node : Nat) (r d k : Int) (v : ByteArray) (w : World) (h : LS w p m s) (hE : adC s node r d k v = 0) (ho : ¬ ordB (r, d) ((kget k s.L).r, (kget k s.L).d) < 0) (hb : ¬ adBad (kget k s.L) r d v) :
    Calls Try.prog 12 #[.pointer (some ⟨p, 0, none⟩), .int .i64 (node : Int), balV r d, .int .i64 k, .string v] w fun e w' =>
      e = .returned (.tuple #[.bool (adNow (kget k s.L) r d node s.n), .int .i64 0]) ∧ LS w' p m { s with L := put k (adKn (kget k s.L) r d node s.n v) s.L } ∧ Fr (S2 p m) w w' := by
  have hEq := fun (a b c d : Int) (w : World) => eqBal a b c d w
  have hGq := eqGBal
  have HS := Lib.hid h
  obtain ⟨⟨u, hT, hC, hu⟩, hg⟩ := h
  have hn : (0 : Int) < s.n := by have := hg.n; omega
  have hbx := box_below w (.cells #[.int .i64 r, .int .i64 d] 31)
  have HT := Lib.hid (hT.below hbx)
  have HBX := Lib.hid hbx
  have c0 := (hT.below hbx).c0
  have bb := Blk.new w 31 #[.int .i64 r, .int .i64 d]
  have HBB := Lib.hid bb
  have e0 := bb.cell (i := 0) (v := .int .i64 r) rfl
  have e1 := bb.cell (i := 1) (v := .int .i64 d) rfl
  have hlt := hT.lt
  have HG := Lib.hid hg
  have HC := Lib.hid hC
  obtain ⟨hv0, hk0, hk1, hlen, hkb⟩ := lchk_zero hE
  have hvt : isV s.n (node : Int) r d = true := by simpa using hv0
  have HE0 : Hid (lchk s.base (!isV s.n (node : Int) r d) k v.size = 0) := hE
  have hk64 : in64 k := ⟨by omega, by omega⟩
  have HVT := Lib.hid hvt
  clear hvt
  obtain ⟨⟨kc, kv, kr, kd, kvo, ks⟩, hk⟩ : ∃ e, kget k s.L = e := ⟨_, rfl⟩
  have HK := Lib.hid hk
  rw [hk] at ho hb ⊢
  have ho' : decide (ordB (r, d) (kr, kd) < 0) = false := by simpa using ho
  have hnode : node < s.n := by obtain ⟨a, ha, hlt⟩ := isV_node HVT.out; omega
  have hks : ks < 2 ^ s.n := by have := hg.kset k; rwa [hk] at this
  have hns := hg.n
  have hll : s.L.length < 1000000000 := by have := hg.len; omega
  have hu0 : 0 ≤ u := by have := hg.base; have := hC.le; omega
  obtain ⟨ss, hss⟩ : ∃ ss, ss = (if kr = r ∧ kd = d then ks else 0) := ⟨_, rfl⟩
  have hset : adSet ⟨kc, kv, kr, kd, kvo, ks⟩ r d node = ss ||| 2 ^ node := by unfold adSet; rw [hss]
  have hsl : ss < 2 ^ s.n := by rw [hss]; split; exact hks; exact Nat.pow_pos (by decide)
  have hs2 : ss ||| 2 ^ node < 2 ^ s.n := bit_ltN hsl hnode
  have hnow : adNow ⟨kc, kv, kr, kd, kvo, ks⟩ r d node s.n = (maj (ss ||| 2 ^ node) s.n && !kc) := by unfold adNow; rw [hset]
  have hKn : adKn ⟨kc, kv, kr, kd, kvo, ks⟩ r d node s.n v = ⟨kc || (maj (ss ||| 2 ^ node) s.n && !kc), if (maj (ss ||| 2 ^ node) s.n && !kc) = true then v else kv, r, d, v, ss ||| 2 ^ node⟩ := by unfold adKn; rw [hnow, hset]
  have HNOW := Lib.hid hnow
  have HKN := Lib.hid hKn
  have hcv : kc = true → v = kv := fun hc => Classical.byContradiction fun hne => hb (.inr ⟨hc, hne⟩)
  have hvo : kr = r ∧ kd = d → v = kvo := fun he => Classical.byContradiction fun hne => hb (.inl ⟨he.1, he.2, hne⟩)
  have h0c : kc = false → kv = ⟨#[]⟩ := fun hc => by
    cases hq : get k s.L with
    | none => unfold kget at hk; rw [hq] at hk; simp [kn0] at hk; exact hk.2.1.symm
    | some e0 =>
      unfold kget at hk
      rw [hq] at hk
      simp at hk
      have := hg.none0 (k, e0) (get_mem hq)
      rw [hk] at this
      exact this hc
  have hgood : LGood { s with L := put k ⟨kc || (maj (ss ||| 2 ^ node) s.n && !kc), if (maj (ss ||| 2 ^ node) s.n && !kc) = true then v else kv, r, d, v, ss ||| 2 ^ node⟩ s.L } := by
    refine hg.puts ⟨hkb, hk1⟩ hs2 fun hf => ?_
    simp only [Bool.or_eq_false_iff] at hf
    simp only [hf.2]
    exact h0c hf.1
  have HGD := Lib.hid hgood
  have hgr := grows_put (k := k) (e := ⟨kc || (maj (ss ||| 2 ^ node) s.n && !kc), if (maj (ss ||| 2 ^ node) s.n && !kc) = true then v else kv, r, d, v, ss ||| 2 ^ node⟩) hg.srt (fun hc => by rw [hk] at hc; simp only at hc; simp [hc])
  have HGR := Lib.hid hgr
  have HKI := Lib.hid hg.kin
  have HS2 := Lib.hid hs2
  have HSL := Lib.hid hsl
  have HSS := Lib.hid hss
  have HCV := Lib.hid hcv
  have HVO := Lib.hid hvo
  clear hT hC hg hbx bb hE hk ho hv0 hset hnow hKn hb hgood hgr hs2 hsl hss hcv hvo h0c hks
  go_enter Try.func12, Try.ntmps12
  go_upto_region 5 with (first
    | (go_at_call 31; refine (lvalid p s.n _ c0 hn).mono ?_; rintro e w' ⟨rfl, rfl⟩)
    | (go_at_call 32; refine (isVote_any p m s.n s.base u s.L (node : Int) r d _ HT.out).mono ?_; rintro e w2 ⟨rfl, b2⟩; have T2 := Lib.hid (HT.out.below b2); have B2 := Lib.hid (bchain HBX.out b2); have c3 := (HT.out.below b2).c3; have hlk := look_run (HT.out.below b2).map k hk64; rw [HK.out] at hlk; simp only [knV] at hlk; have y0 := bcell b2 e0; have y1 := bcell b2 e1; clear b2)
    | (go_at_call 30; refine (lcheck_any p m s.n s.base u s.L (!isV s.n (node : Int) r d) k v _ T2.out hn).mono ?_; rw [HE0.out]; rintro e w' ⟨rfl, rfl⟩))
  have hb3 := box_below w2 (.cells #[.bool kc, .string kv, .int .i64 kr, .int .i64 kd, .string kvo, .int .u64 (ks : Int)] 77)
  have B3 := Lib.hid (bchain B2.out hb3)
  have T3 := Lib.hid (T2.out.below hb3)
  have KB := Lib.hid (Blk.new w2 77 #[.bool kc, .string kv, .int .i64 kr, .int .i64 kd, .string kvo, .int .u64 (ks : Int)])
  have x0 := bcell hb3 y0
  have x1 := bcell hb3 y1
  have hw2 := B2.out.size
  have hbl : w.heap.size < w2.heap.size := by obtain ⟨o, ho, _⟩ := cells_of_cell y0; exact (Array.getElem?_eq_some_iff.1 ho).1
  generalize (w2.alloc (.cells #[.bool kc, .string kv, .int .i64 kr, .int .i64 kd, .string kvo, .int .u64 (ks : Int)] 77)) = W3 at *
  obtain ⟨kb, hkb2⟩ : ∃ kb, kb = w2.heap.size := ⟨_, rfl⟩
  rw [← hkb2] at KB ⊢
  obtain ⟨bb, hbb2⟩ : ∃ bb, bb = w.heap.size := ⟨_, rfl⟩
  rw [← hbb2] at x0 x1 ⊢
  have npb : ¬ p = kb := by omega
  have nmb : ¬ m = kb := by omega
  have nbb : ¬ bb = kb := by omega
  have hkb3 : w.heap.size ≤ kb := by omega
  clear hkb2 hbb2 hb3 hlk c3 c0 e0 e1 y0 y1 hw2 hbl
  have z0 := KB.out.cell (i := 0) (v := .bool kc) rfl
  have z1 := KB.out.cell (i := 1) (v := .string kv) rfl
  have z2 := KB.out.cell (i := 2) (v := .int .i64 kr) rfl
  have z3 := KB.out.cell (i := 3) (v := .int .i64 kd) rfl
  have z4 := KB.out.cell (i := 4) (v := .string kvo) rfl
  have z5 := KB.out.cell (i := 5) (v := .int .u64 (ks : Int)) rfl
  go_upto_block 0 with (first | (go_at_call 33; refine (order_any _ _ _ _ _).mono ?_; rintro e w4 ⟨rfl, b4⟩; have B4 := Lib.hid (B3.out.trans (b4.mono B3.out.size)); have T4 := Lib.hid (T3.out.below b4); have K4 := Lib.hid (KB.out.bel b4); have q0 := bcell b4 x0; have q1 := bcell b4 x1; have v0 := bcell b4 z0; have v1 := bcell b4 z1; have v2 := bcell b4 z2; have v3 := bcell b4 z3; have v4 := bcell b4 z4; have v5 := bcell b4 z5; clear b4))
  clear x0 x1 z0 z1 z2 z3 z4 z5
  go_cut [] (fun wx => Blk wx kb 77 #[.bool kc, .string kv, .int .i64 r, .int .i64 d, .string v, .int .u64 (ss : Int)] ∧ Fr (S1 kb) w4 wx)
  case first =>
    by_cases h4 : kr = r ∧ kd = d
    · have hss := HSS.out
      obtain rfl := HVO.out h4
      obtain ⟨rfl, rfl⟩ := h4
      rw [if_pos ⟨rfl, rfl⟩] at hss
      subst hss
      cases kc with
      | true =>
        obtain rfl := HCV.out rfl
        go_wp2_with fail
        go_meet
        exact ⟨K4.out, Fr.refl _ _⟩
      | false =>
        go_wp2_with fail
        go_meet
        exact ⟨K4.out, Fr.refl _ _⟩
    · have hss := HSS.out
      rw [if_neg h4] at hss
      subst hss
      have hzz : (r == kr && d == kd) = false := by
        rw [Bool.eq_false_iff]
        intro hc
        simp at hc
        exact h4 ⟨hc.1.symm, hc.2.symm⟩
      have HZZ := Lib.hid hzz
      have hEz : ∀ w : World, (Op.equalIn 10000 31 (.agg #[.int .i64 r, .int .i64 d]) (.agg #[.int .i64 kr, .int .i64 kd])).run Try.prog w = .ok false w := fun w => by rw [hEq, HZZ.out]
      have hfz := fun i => K4.out.frozen i
      clear hEq hzz h4
      cases kc with
      | true =>
        obtain rfl := HCV.out rfl
        go_wp2_with fail
        go_meet
        exact ⟨(((K4.out.set 2 (.int .i64 r)).set 3 (.int .i64 d)).set 4 (.string v)).set 5 (.int .u64 0), frK w4 kb _ _ _ _⟩
      | false =>
        go_wp2_with fail
        go_meet
        exact ⟨(((K4.out.set 2 (.int .i64 r)).set 3 (.int .i64 d)).set 4 (.string v)).set 5 (.int .u64 0), frK w4 kb _ _ _ _⟩
  case rest =>
    obtain ⟨kw, fw⟩ := hcut
    obtain ⟨w5, rfl⟩ : ∃ w5 : World, w5 = wc := ⟨_, rfl⟩
    have K5 := Lib.hid kw
    have T5 := Lib.hid (T4.out.fr fw npb nmb)
    have B5 := Lib.hid (Fr.upB B4.out fw (fun i e => by have e : i = kb := e; omega))
    have y5 := kw.cell (i := 5) (v := .int .u64 (ss : Int)) rfl
    have yz := kw.frozen 5
    clear kw fw q0 q1 v0 v1 v2 v3 v4 v5
    go_upto_region 12 with fail
    go_still_tail 6, (by kernel_rfl)
    go_upto_region 13 with fail
    have hv := bitorN hns HSL.out hnode
    rw [hv]
    clear hv
    have f6 : Fr (S1 kb) w5 (w5.setCell ⟨kb, 5, none⟩ (.int .u64 ((ss ||| 2 ^ node : Nat) : Int))).drew := (((Fr.refl (S1 kb) w5).setCell (p := ⟨kb, 5, none⟩) (.inl (show S1 kb kb from rfl)) _)).drew
    have K6 : Hid (Blk (w5.setCell ⟨kb, 5, none⟩ (.int .u64 ((ss ||| 2 ^ node : Nat) : Int))).drew kb 77 #[.bool kc, .string kv, .int .i64 r, .int .i64 d, .string v, .int .u64 ((ss ||| 2 ^ node : Nat) : Int)]) := K5.out.set 5 (.int .u64 ((ss ||| 2 ^ node : Nat) : Int))
    have T6 := Lib.hid (T5.out.fr f6 npb nmb)
    have B6 := Lib.hid (Fr.upB B5.out f6 (fun i e => by have e : i = kb := e; omega))
    clear f6 y5 yz K5 T5 B5 T4 B4 K4 T3 B3 KB T2 B2
    generalize (w5.setCell ⟨kb, 5, none⟩ (.int .u64 ((ss ||| 2 ^ node : Nat) : Int))).drew = W6 at *
    obtain ⟨s2, hs2⟩ : ∃ s2, ss ||| 2 ^ node = s2 := ⟨_, rfl⟩
    rw [hs2] at K6 HS2 HGD HGR
    have HSE := Lib.hid hs2
    clear hs2
    have x5 := K6.out.cell (i := 5) (v := .int .u64 (s2 : Int)) rfl
    have x0 := T6.out.c0
    cases hmj : maj s2 s.n with
    | false =>
      go_region_held3 (fun W => W.cell? ⟨kb, 5, none⟩ = some (.int .u64 (s2 : Int)) ∧ W.cell? ⟨p, 0, none⟩ = some (.int .i64 (s.n : Int)))
        (first | exact ⟨by assumption, by assumption⟩ | go_keep)
        (first
          | (go_at_call 34; refine (is_any s.n s2 _ hns HS2.out).mono ?_; rw [hmj]; rintro e w7 ⟨rfl, b7⟩; have b7' : Below W6.heap.size W6 w7 := (Below.refl _ _).drew.trans (b7.mono (by simp)); have K7 := Lib.hid (K6.out.bel b7'); have T7 := Lib.hid (T6.out.below b7'); have B7 := Lib.hid (B6.out.trans (b7'.mono (bchainSz B6.out))); have z5 := bcell b7' x5; have z0 := bcell b7' x0; clear b7 b7'))
      clear x5 x0 z5 z0
      have k0 := K7.out.cell (i := 0) (v := .bool kc) rfl
      have k1 := K7.out.cell (i := 1) (v := .string kv) rfl
      have k2 := K7.out.cell (i := 2) (v := .int .i64 r) rfl
      have k3 := K7.out.cell (i := 3) (v := .int .i64 d) rfl
      have k4 := K7.out.cell (i := 4) (v := .string v) rfl
      have k5 := K7.out.cell (i := 5) (v := .int .u64 (s2 : Int)) rfl
      have kz0 := K7.out.frozen 0
      have kz1 := K7.out.frozen 1
      simp only [hmj, Bool.false_and, Bool.or_false, Bool.false_eq_true, if_false] at HGD HGR
      have HMJ := Lib.hid hmj
      have harm : Calls Try.prog 35 #[.pointer (some ⟨p, 0, none⟩), .int .i64 k, .agg #[.bool kc, .string kv, .int .i64 r, .int .i64 d, .string v, .int .u64 (s2 : Int)]] _ _ := put_any p m s.n s.base u s.L k ⟨kc, kv, r, d, v, s2⟩ _ T7.out ⟨hu0, hu⟩ HKI.out ⟨hk0, hk1⟩ hll
      go_wp2_with (first | (go_at_call 35; refine harm.mono ?_; rintro e w8 ⟨rfl, u', h1, h2, h3, h4⟩; have F8 := Lib.hid h4; have T8 := Lib.hid h3; have C8 := Lib.hid h1; clear h4 h3 h1))
      go_returns
      rw [HNOW.out, HKN.out, HSE.out]
      simp only [HMJ.out, Bool.false_and, Bool.or_false, Bool.false_eq_true, if_false]
      exact ⟨rfl, ⟨⟨u', T8.out, climbs_put HC.out HGR.out C8.out, h2⟩, HGD.out⟩, (Fr.of_below B7.out).trans F8.out⟩
    | true =>
      go_region_held3 (fun W => W.cell? ⟨kb, 5, none⟩ = some (.int .u64 (s2 : Int)) ∧ W.cell? ⟨p, 0, none⟩ = some (.int .i64 (s.n : Int)))
        (first | exact ⟨by assumption, by assumption⟩ | go_keep)
        (first
          | (go_at_call 34; refine (is_any s.n s2 _ hns HS2.out).mono ?_; rw [hmj]; rintro e w7 ⟨rfl, b7⟩; have b7' : Below W6.heap.size W6 w7 := (Below.refl _ _).drew.trans (b7.mono (by simp)); have K7 := Lib.hid (K6.out.bel b7'); have T7 := Lib.hid (T6.out.below b7'); have B7 := Lib.hid (B6.out.trans (b7'.mono (bchainSz B6.out))); have z5 := bcell b7' x5; have z0 := bcell b7' x0; clear b7 b7'))
      clear x5 x0 z5 z0
      have k0 := K7.out.cell (i := 0) (v := .bool kc) rfl
      have k1 := K7.out.cell (i := 1) (v := .string kv) rfl
      have k2 := K7.out.cell (i := 2) (v := .int .i64 r) rfl
      have k3 := K7.out.cell (i := 3) (v := .int .i64 d) rfl
      have k4 := K7.out.cell (i := 4) (v := .string v) rfl
      have k5 := K7.out.cell (i := 5) (v := .int .u64 (s2 : Int)) rfl
      have kz0 := K7.out.frozen 0
      have kz1 := K7.out.frozen 1
      cases kc with
      | true =>
        simp only [hmj, Bool.true_and, Bool.not_true, Bool.or_false, Bool.false_eq_true, if_false] at HGD HGR
        have HMJ := Lib.hid hmj
        have harm : Calls Try.prog 35 #[.pointer (some ⟨p, 0, none⟩), .int .i64 k, .agg #[.bool true, .string kv, .int .i64 r, .int .i64 d, .string v, .int .u64 (s2 : Int)]] _ _ := put_any p m s.n s.base u s.L k ⟨true, kv, r, d, v, s2⟩ _ T7.out ⟨hu0, hu⟩ HKI.out ⟨hk0, hk1⟩ hll
        go_wp2_with (first | (go_at_call 35; refine harm.mono ?_; rintro e w8 ⟨rfl, u', h1, h2, h3, h4⟩; have F8 := Lib.hid h4; have T8 := Lib.hid h3; have C8 := Lib.hid h1; clear h4 h3 h1))
        go_returns
        rw [HNOW.out, HKN.out, HSE.out]
        simp only [HMJ.out, Bool.true_and, Bool.not_true, Bool.or_false, Bool.false_eq_true, if_false]
        exact ⟨rfl, ⟨⟨u', T8.out, climbs_put HC.out HGR.out C8.out, h2⟩, HGD.out⟩, (Fr.of_below B7.out).trans F8.out⟩
      | false =>
        simp only [hmj, Bool.true_and, Bool.not_false, Bool.or_true, Bool.false_or, if_true] at HGD HGR
        have HMJ := Lib.hid hmj
        have f9 : Fr (S1 kb) w7 ((w7.setCell ⟨kb, 0, none⟩ (.bool true)).setCell ⟨kb, 1, none⟩ (.string v)) := ((Fr.refl (S1 kb) w7).setCell (p := ⟨kb, 0, none⟩) (.inl (show S1 kb kb from rfl)) _).setCell (p := ⟨kb, 1, none⟩) (.inl (show S1 kb kb from rfl)) _
        have T9 := Lib.hid (T7.out.fr f9 npb nmb)
        have B9 := Lib.hid (Fr.upB B7.out f9 (fun i e => by have e : i = kb := e; omega))
        clear f9
        have harm : Calls Try.prog 35 #[.pointer (some ⟨p, 0, none⟩), .int .i64 k, .agg #[.bool true, .string v, .int .i64 r, .int .i64 d, .string v, .int .u64 (s2 : Int)]] _ _ := put_any p m s.n s.base u s.L k ⟨true, v, r, d, v, s2⟩ _ T9.out ⟨hu0, hu⟩ HKI.out ⟨hk0, hk1⟩ hll
        go_wp2_with (first | (go_at_call 35; refine harm.mono ?_; rintro e w8 ⟨rfl, u', h1, h2, h3, h4⟩; have F8 := Lib.hid h4; have T8 := Lib.hid h3; have C8 := Lib.hid h1; clear h4 h3 h1))
        go_returns
        rw [HNOW.out, HKN.out, HSE.out]
        simp only [HMJ.out, Bool.true_and, Bool.not_false, Bool.or_true, Bool.false_or, if_true]
        exact ⟨rfl, ⟨⟨u', T8.out, climbs_put HC.out HGR.out C8.out, h2⟩, HGD.out⟩, (Fr.of_below B9.out).trans F8.out⟩
end Go.Proofs.Ytnnadpbfidfhoaa
