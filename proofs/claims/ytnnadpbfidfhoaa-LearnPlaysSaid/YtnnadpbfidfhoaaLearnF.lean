/- Package learn: Add. -/
import Derived.Test.YtnnadpbfidfhoaaLearnE
set_option linter.unusedVariables false
set_option linter.unusedSimpArgs false
namespace Go.Proofs.Ytnnadpbfidfhoaa
open Go.RowKit Go.Maps Go.Shelf

theorem bitor7 : ∀ t : Nat, t < 128 → ∀ a : Nat, a < 7 → bits BinOp.or IntKind.u64 (t : Int) (IntKind.u64.wrap ((2 : Int) ^ a)) = ((t ||| 2 ^ a : Nat) : Int) := by decide +kernel
theorem bitorN {n t a : Nat} (hn : 1 ≤ n ∧ n ≤ 7) (ht : t < 2 ^ n) (ha : a < n) : bits BinOp.or IntKind.u64 (t : Int) (IntKind.u64.wrap ((2 : Int) ^ a)) = ((t ||| 2 ^ a : Nat) : Int) :=
  bitor7 t (Nat.lt_of_lt_of_le ht (Nat.le_trans (Nat.pow_le_pow_right (by decide) hn.2) (by decide))) a (by omega)
theorem bit_ltN {n a i : Nat} (ha : a < 2 ^ n) (hi : i < n) : a ||| 2 ^ i < 2 ^ n := Nat.or_lt_two_pow ha (Nat.pow_lt_pow_right (by decide) hi)

def adC (s : LSt) (node r d k : Int) (v : ByteArray) : Int := lchk s.base (!isV s.n node r d) k v.size
def adSet (e : Kn) (r d : Int) (node : Nat) : Nat := (if e.r = r ∧ e.d = d then e.set else 0) ||| 2 ^ node
def adNow (e : Kn) (r d : Int) (node n : Nat) : Bool := maj (adSet e r d node) n && !e.c
def adKn (e : Kn) (r d : Int) (node n : Nat) (v : ByteArray) : Kn := ⟨e.c || adNow e r d node n, if adNow e r d node n = true then v else e.v, r, d, v, adSet e r d node⟩
def adBad (e : Kn) (r d : Int) (v : ByteArray) : Prop := (e.r = r ∧ e.d = d ∧ v ≠ e.vote) ∨ (e.c = true ∧ v ≠ e.v)
theorem isV_node {n : Nat} {node r d : Int} (h : isV n node r d = true) : ∃ a : Nat, node = (a : Int) ∧ a < n := by
  unfold isV at h
  simp only [Bool.and_eq_true, decide_eq_true_eq] at h
  exact ⟨node.toNat, by omega, by omega⟩

set_option maxRecDepth 100000 in
set_option maxHeartbeats 1000000 in
theorem add_chk (p m : Nat) (s : LSt) (node r d k : Int) (v : ByteArray) (w : World) (h : LS w p m s) (hE : adC s node r d k v ≠ 0) :
    Calls Try.prog 12 #[.pointer (some ⟨p, 0, none⟩), .int .i64 node, balV r d, .int .i64 k, .string v] w fun e w' => e = .returned (.tuple #[.bool false, .int .i64 (adC s node r d k v)]) ∧ Below w.heap.size w w' := by
  have HS := Lib.hid h
  obtain ⟨⟨u, hT, hC, hu⟩, hg⟩ := h
  have hn : (0 : Int) < s.n := by have := hg.n; omega
  have hbx := box_below w (.cells #[.int .i64 r, .int .i64 d] 31)
  have HT := Lib.hid (hT.below hbx)
  have HBX := Lib.hid hbx
  have c0 := (hT.below hbx).c0
  have bb := Blk.new w 31 #[.int .i64 r, .int .i64 d]
  have HBB := Lib.hid bb
  have e0 := bb.cell (i := 0) (v := .int .i64 r) rfl
  have e1 := bb.cell (i := 1) (v := .int .i64 d) rfl
  have hlt := hT.lt
  have HG := Lib.hid hg
  have HC := Lib.hid hC
  have h1 : (adC s node r d k v == 0) = false := by simpa using hE
  have hd : lchk s.base (!isV s.n node r d) k v.size = adC s node r d k v := rfl
  have HD := Lib.hid hd
  clear hT hC hg hbx bb hd hE
  go_enter Try.func12, Try.ntmps12
  go_wp2_with (first
    | (go_at_call 31; refine (lvalid p s.n _ c0 hn).mono ?_; rintro e w' ⟨rfl, rfl⟩)
    | (go_at_call 32; refine (isVote_any p m s.n s.base u s.L node r d _ HT.out).mono ?_; rintro e w2 ⟨rfl, b2⟩; have T2 := Lib.hid (HT.out.below b2); have B2 := Lib.hid (bchain HBX.out b2); have c3 := (HT.out.below b2).c3; have y0 := bcell b2 e0; have y1 := bcell b2 e1; clear b2)
    | (go_at_call 30; refine (lcheck_any p m s.n s.base u s.L (!isV s.n node r d) k v _ T2.out hn).mono ?_; rw [HD.out]; rintro e w' ⟨rfl, rfl⟩))
  go_returns
  exact ⟨rfl, B2.out⟩

set_option maxRecDepth 100000 in
set_option maxHeartbeats 1000000 in
theorem add_old (p m : Nat) (s : LSt) (node r d k : Int) (v : ByteArray) (w : World) (h : LS w p m s) (hE : adC s node r d k v = 0) (ho : ordB (r, d) ((kget k s.L).r, (kget k s.L).d) < 0) :
    Calls Try.prog 12 #[.pointer (some ⟨p, 0, none⟩), .int .i64 node, balV r d, .int .i64 k, .string v] w fun e w' => e = .returned (.tuple #[.bool false, .int .i64 0]) ∧ Below w.heap.size w w' := by
  have HS := Lib.hid h
  obtain ⟨⟨u, hT, hC, hu⟩, hg⟩ := h
  have hn : (0 : Int) < s.n := by have := hg.n; omega
  have hbx := box_below w (.cells #[.int .i64 r, .int .i64 d] 31)
  have HT := Lib.hid (hT.below hbx)
  have HBX := Lib.hid hbx
  have c0 := (hT.below hbx).c0
  have bb := Blk.new w 31 #[.int .i64 r, .int .i64 d]
  have HBB := Lib.hid bb
  have e0 := bb.cell (i := 0) (v := .int .i64 r) rfl
  have e1 := bb.cell (i := 1) (v := .int .i64 d) rfl
  have hlt := hT.lt
  have HG := Lib.hid hg
  have HC := Lib.hid hC
  obtain ⟨hv0, hk0, hk1, hlen, hkb⟩ := lchk_zero hE
  have hvt : isV s.n node r d = true := by simpa using hv0
  have HE0 : Hid (lchk s.base (!isV s.n node r d) k v.size = 0) := hE
  have hk64 : in64 k := ⟨by omega, by omega⟩
  have HVT := Lib.hid hvt
  clear hvt
  obtain ⟨⟨kc, kv, kr, kd, kvo, ks⟩, hk⟩ : ∃ e, kget k s.L = e := ⟨_, rfl⟩
  have HK := Lib.hid hk
  rw [hk] at ho
  have ho' : decide (ordB (r, d) (kr, kd) < 0) = true := by simpa using ho
  clear hT hC hg hbx bb hE hk ho hv0
  go_enter Try.func12, Try.ntmps12
  go_upto_region 5 with (first
    | (go_at_call 31; refine (lvalid p s.n _ c0 hn).mono ?_; rintro e w' ⟨rfl, rfl⟩)
    | (go_at_call 32; refine (isVote_any p m s.n s.base u s.L node r d _ HT.out).mono ?_; rintro e w2 ⟨rfl, b2⟩; have T2 := Lib.hid (HT.out.below b2); have B2 := Lib.hid (bchain HBX.out b2); have c3 := (HT.out.below b2).c3; have hlk := look_run (HT.out.below b2).map k hk64; rw [HK.out] at hlk; simp only [knV] at hlk; have y0 := bcell b2 e0; have y1 := bcell b2 e1; clear b2)
    | (go_at_call 30; refine (lcheck_any p m s.n s.base u s.L (!isV s.n node r d) k v _ T2.out hn).mono ?_; rw [HE0.out]; rintro e w' ⟨rfl, rfl⟩))
  have hb3 := box_below w2 (.cells #[.bool kc, .string kv, .int .i64 kr, .int .i64 kd, .string kvo, .int .u64 (ks : Int)] 77)
  have B3 := Lib.hid (bchain B2.out hb3)
  have T3 := Lib.hid (T2.out.below hb3)
  have KB := Lib.hid (Blk.new w2 77 #[.bool kc, .string kv, .int .i64 kr, .int .i64 kd, .string kvo, .int .u64 (ks : Int)])
  have x0 := bcell hb3 y0
  have x1 := bcell hb3 y1
  have hw2 := B2.out.size
  have hbl : w.heap.size < w2.heap.size := by obtain ⟨o, ho, _⟩ := cells_of_cell y0; exact (Array.getElem?_eq_some_iff.1 ho).1
  generalize (w2.alloc (.cells #[.bool kc, .string kv, .int .i64 kr, .int .i64 kd, .string kvo, .int .u64 (ks : Int)] 77)) = W3 at *
  obtain ⟨kb, hkb2⟩ : ∃ kb, kb = w2.heap.size := ⟨_, rfl⟩
  rw [← hkb2] at KB ⊢
  obtain ⟨bb, hbb2⟩ : ∃ bb, bb = w.heap.size := ⟨_, rfl⟩
  rw [← hbb2] at x0 x1 ⊢
  have npb : ¬ p = kb := by omega
  have nmb : ¬ m = kb := by omega
  have nbb : ¬ bb = kb := by omega
  have hkb3 : w.heap.size ≤ kb := by omega
  clear hkb2 hbb2 hb3 hlk c3 c0 e0 e1 y0 y1 hw2 hbl
  have z0 := KB.out.cell (i := 0) (v := .bool kc) rfl
  have z1 := KB.out.cell (i := 1) (v := .string kv) rfl
  have z2 := KB.out.cell (i := 2) (v := .int .i64 kr) rfl
  have z3 := KB.out.cell (i := 3) (v := .int .i64 kd) rfl
  have z4 := KB.out.cell (i := 4) (v := .string kvo) rfl
  have z5 := KB.out.cell (i := 5) (v := .int .u64 (ks : Int)) rfl
  go_wp2_with (first | (go_at_call 33; refine (order_any _ _ _ _ _).mono ?_; rintro e w4 ⟨rfl, b4⟩; have B4 := Lib.hid (B3.out.trans (b4.mono B3.out.size)); have T4 := Lib.hid (T3.out.below b4); have K4 := Lib.hid (KB.out.bel b4); have q0 := bcell b4 x0; have q1 := bcell b4 x1; have v0 := bcell b4 z0; have v1 := bcell b4 z1; have v2 := bcell b4 z2; have v3 := bcell b4 z3; have v4 := bcell b4 z4; have v5 := bcell b4 z5; clear b4))
  go_returns
  exact ⟨rfl, B4.out⟩

set_option maxRecDepth 100000 in
set_option maxHeartbeats 1000000 in
theorem add_bad (p m : Nat) (s : LSt) (node r d k : Int) (v : ByteArray) (w : World) (h : LS w p m s) (hE : adC s node r d k v = 0) (ho : ¬ ordB (r, d) ((kget k s.L).r, (kget k s.L).d) < 0) (hb : adBad (kget k s.L) r d v) :
    Calls Try.prog 12 #[.pointer (some ⟨p, 0, none⟩), .int .i64 node, balV r d, .int .i64 k, .string v] w fun e w' => e = .returned (.tuple #[.bool false, .int .i64 9]) ∧ Below w.heap.size w w' := by
  have hEq := fun (a b c d : Int) (w : World) => eqBal a b c d w
  have hGq := eqGBal
  have HS := Lib.hid h
  obtain ⟨⟨u, hT, hC, hu⟩, hg⟩ := h
  have hn : (0 : Int) < s.n := by have := hg.n; omega
  have hbx := box_below w (.cells #[.int .i64 r, .int .i64 d] 31)
  have HT := Lib.hid (hT.below hbx)
  have HBX := Lib.hid hbx
  have c0 := (hT.below hbx).c0
  have bb := Blk.new w 31 #[.int .i64 r, .int .i64 d]
  have HBB := Lib.hid bb
  have e0 := bb.cell (i := 0) (v := .int .i64 r) rfl
  have e1 := bb.cell (i := 1) (v := .int .i64 d) rfl
  have hlt := hT.lt
  have HG := Lib.hid hg
  have HC := Lib.hid hC
  obtain ⟨hv0, hk0, hk1, hlen, hkb⟩ := lchk_zero hE
  have hvt : isV s.n node r d = true := by simpa using hv0
  have HE0 : Hid (lchk s.base (!isV s.n node r d) k v.size = 0) := hE
  have hk64 : in64 k := ⟨by omega, by omega⟩
  have HVT := Lib.hid hvt
  clear hvt
  obtain ⟨⟨kc, kv, kr, kd, kvo, ks⟩, hk⟩ : ∃ e, kget k s.L = e := ⟨_, rfl⟩
  have HK := Lib.hid hk
  rw [hk] at ho hb
  have ho' : decide (ordB (r, d) (kr, kd) < 0) = false := by simpa using ho
  clear hT hC hg hbx bb hE hk ho hv0
  go_enter Try.func12, Try.ntmps12
  go_upto_region 5 with (first
    | (go_at_call 31; refine (lvalid p s.n _ c0 hn).mono ?_; rintro e w' ⟨rfl, rfl⟩)
    | (go_at_call 32; refine (isVote_any p m s.n s.base u s.L node r d _ HT.out).mono ?_; rintro e w2 ⟨rfl, b2⟩; have T2 := Lib.hid (HT.out.below b2); have B2 := Lib.hid (bchain HBX.out b2); have c3 := (HT.out.below b2).c3; have hlk := look_run (HT.out.below b2).map k hk64; rw [HK.out] at hlk; simp only [knV] at hlk; have y0 := bcell b2 e0; have y1 := bcell b2 e1; clear b2)
    | (go_at_call 30; refine (lcheck_any p m s.n s.base u s.L (!isV s.n node r d) k v _ T2.out hn).mono ?_; rw [HE0.out]; rintro e w' ⟨rfl, rfl⟩))
  have hb3 := box_below w2 (.cells #[.bool kc, .string kv, .int .i64 kr, .int .i64 kd, .string kvo, .int .u64 (ks : Int)] 77)
  have B3 := Lib.hid (bchain B2.out hb3)
  have T3 := Lib.hid (T2.out.below hb3)
  have KB := Lib.hid (Blk.new w2 77 #[.bool kc, .string kv, .int .i64 kr, .int .i64 kd, .string kvo, .int .u64 (ks : Int)])
  have x0 := bcell hb3 y0
  have x1 := bcell hb3 y1
  have hw2 := B2.out.size
  have hbl : w.heap.size < w2.heap.size := by obtain ⟨o, ho, _⟩ := cells_of_cell y0; exact (Array.getElem?_eq_some_iff.1 ho).1
  generalize (w2.alloc (.cells #[.bool kc, .string kv, .int .i64 kr, .int .i64 kd, .string kvo, .int .u64 (ks : Int)] 77)) = W3 at *
  obtain ⟨kb, hkb2⟩ : ∃ kb, kb = w2.heap.size := ⟨_, rfl⟩
  rw [← hkb2] at KB ⊢
  obtain ⟨bb, hbb2⟩ : ∃ bb, bb = w.heap.size := ⟨_, rfl⟩
  rw [← hbb2] at x0 x1 ⊢
  have npb : ¬ p = kb := by omega
  have nmb : ¬ m = kb := by omega
  have nbb : ¬ bb = kb := by omega
  have hkb3 : w.heap.size ≤ kb := by omega
  clear hkb2 hbb2 hb3 hlk c3 c0 e0 e1 y0 y1 hw2 hbl
  have z0 := KB.out.cell (i := 0) (v := .bool kc) rfl
  have z1 := KB.out.cell (i := 1) (v := .string kv) rfl
  have z2 := KB.out.cell (i := 2) (v := .int .i64 kr) rfl
  have z3 := KB.out.cell (i := 3) (v := .int .i64 kd) rfl
  have z4 := KB.out.cell (i := 4) (v := .string kvo) rfl
  have z5 := KB.out.cell (i := 5) (v := .int .u64 (ks : Int)) rfl
  go_upto_block 0 with (first | (go_at_call 33; refine (order_any _ _ _ _ _).mono ?_; rintro e w4 ⟨rfl, b4⟩; have B4 := Lib.hid (B3.out.trans (b4.mono B3.out.size)); have T4 := Lib.hid (T3.out.below b4); have K4 := Lib.hid (KB.out.bel b4); have q0 := bcell b4 x0; have q1 := bcell b4 x1; have v0 := bcell b4 z0; have v1 := bcell b4 z1; have v2 := bcell b4 z2; have v3 := bcell b4 z3; have v4 := bcell b4 z4; have v5 := bcell b4 z5; clear b4))
  clear x0 x1 z0 z1 z2 z3 z4 z5
  by_cases h1 : r = kr ∧ d = kd ∧ v ≠ kvo
  · obtain ⟨rfl, rfl, h2⟩ := h1
    have h3 : (v.toList == kvo.toList) = false := by rw [str_eq]; simpa using h2
    clear hb h2
    go_wp2_with fail
    go_returns
    exact ⟨rfl, B4.out⟩
  · have h2 : kc = true ∧ v ≠ kv := by
      rcases hb with hb | hb
      · exact absurd ⟨hb.1.symm, hb.2.1.symm, hb.2.2⟩ h1
      · exact hb
    obtain ⟨rfl, h2⟩ := h2
    have h3 : (v.toList == kv.toList) = false := by rw [str_eq]; simpa using h2
    clear hb h2
    by_cases h4 : r = kr ∧ d = kd
    · obtain ⟨rfl, rfl⟩ := h4
      obtain rfl : v = kvo := Classical.byContradiction fun hc => h1 ⟨rfl, rfl, hc⟩
      clear h1
      go_wp2_with fail
      go_returns
      exact ⟨rfl, B4.out⟩
    · have h5 : (r == kr && d == kd) = false := by
        rw [Bool.eq_false_iff]
        intro hc
        simp at hc
        exact h4 hc
      generalize hzz : (r == kr && d == kd) = zz at *
      subst h5
      have HZZ := Lib.hid hzz
      clear hzz h4 h1
      have hEz : ∀ w : World, (Op.equalIn 10000 31 (.agg #[.int .i64 r, .int .i64 d]) (.agg #[.int .i64 kr, .int .i64 kd])).run Try.prog w = .ok false w := fun w => by rw [hEq, HZZ.out]
      clear hEq
      go_wp2_with fail
      go_returns
      exact ⟨rfl, B4.out⟩

end Go.Proofs.Ytnnadpbfidfhoaa
