/- Package learn: Learn, Chosen, Votes, Upto. -/
import Derived.Test.YtnnadpbfidfhoaaLearnD
set_option linter.unusedVariables false
set_option linter.unusedSimpArgs false
namespace Go.Proofs.Ytnnadpbfidfhoaa
open Go.RowKit Go.Maps Go.Shelf

def lnE (s : LSt) (k : Int) (v : ByteArray) : Int := if lchk s.base false k v.size ≠ 0 then lchk s.base false k v.size else if (kget k s.L).c = true ∧ v ≠ (kget k s.L).v then 9 else 0
def lnK (e : Kn) (v : ByteArray) : Kn := { e with c := true, v := v }
def lnS (s : LSt) (k : Int) (v : ByteArray) : LSt := if lnE s k v = 0 then { s with L := put k (lnK (kget k s.L) v) s.L } else s
theorem lchk_zero {base k : Int} {b : Bool} {len : Nat} (h : lchk base b k len = 0) : b = false ∧ 0 ≤ k ∧ k < 4096 ∧ len ≤ 65536 ∧ base ≤ k := by
  unfold lchk at h
  split at h
  · simp at h
  · rename_i h1
    split at h
    · simp at h
    · split at h
      · simp at h
      · refine ⟨?_, by omega, by omega, by omega, by omega⟩
        cases b
        · rfl
        · exact absurd (.inl rfl) h1
/-- What is chosen stays so: the first slot that is not chosen goes on. -/
theorem climbs_put {L L' : KL} {base u u' : Int} (h : Climbs L base u) (hg : ∀ i, (kget i L).c = true → (kget i L').c = true) (k : Climbs L' u u') : Climbs L' base u' :=
  ⟨Int.le_trans h.le k.le, fun i h1 h2 => by
    by_cases hi : i < u
    · exact hg i (h.all i h1 hi)
    · exact k.all i (by omega) h2, k.stop⟩
theorem grows_put {L : KL} {k : Int} {e : Kn} (hs : Srt L) (h : (kget k L).c = true → e.c = true) : ∀ i, (kget i L).c = true → (kget i (put k e L)).c = true := fun i hi => by
  rw [kget_put hs]
  split
  · rename_i hik
    subst hik
    exact h hi
  · exact hi

set_option maxRecDepth 100000 in
set_option maxHeartbeats 2000000 in
theorem learn_S (p m : Nat) (s : LSt) (k : Int) (v : ByteArray) (w : World) (h : LS w p m s) :
    Calls Try.prog 17 #[.pointer (some ⟨p, 0, none⟩), .int .i64 k, .string v] w fun e w' => e = .returned (.int .i64 (lnE s k v)) ∧ LS w' p m (lnS s k v) ∧ Fr (S2 p m) w w' := by
  have HS := Lib.hid h
  obtain ⟨⟨u, hT, hC, hu⟩, hg⟩ := h
  have hn : (0 : Int) < s.n := by have := hg.n; omega
  have HT := Lib.hid hT
  by_cases h0 : lchk s.base false k v.size = 0
  case neg =>
    have E : lnE s k v = lchk s.base false k v.size := by unfold lnE; rw [if_pos h0]
    have ES : lnS s k v = s := by unfold lnS; rw [E, if_neg h0]
    rw [E, ES]
    have h1 : (lchk s.base false k v.size == 0) = false := by simpa using h0
    clear E ES h0 hT hC
    go_enter Try.func17, Try.ntmps17
    go_wp2_with (go_at_call 30; refine (lcheck_any p m s.n s.base u s.L false k v _ HT.out hn).mono ?_; rintro e w' ⟨rfl, rfl⟩)
    go_returns
    exact ⟨rfl, HS.out, Fr.refl _ _⟩
  have H0 := Lib.hid h0
  obtain ⟨_, hk0, hk1, hlen, hkb⟩ := lchk_zero h0
  have c3 := hT.c3
  have hlk := look_run hT.map k ⟨by omega, by omega⟩
  obtain ⟨⟨kc, kv, kr, kd, kvo, ks⟩, hk⟩ : ∃ e, kget k s.L = e := ⟨_, rfl⟩
  rw [hk] at hlk
  simp only [knV] at hlk
  have HK := Lib.hid hk
  have HG := Lib.hid hg
  have HC := Lib.hid hC
  have hlt := hT.lt
  have hll : s.L.length < 1000000000 := by have := hg.len; omega
  have hu0 : 0 ≤ u := by have := hg.base; have := hC.le; omega
  by_cases hs : kc = true ∧ v ≠ kv
  · obtain ⟨rfl, hne⟩ := hs
    have E : lnE s k v = 9 := by unfold lnE; rw [if_neg (by rw [h0]; simp), HK.out, if_pos ⟨rfl, hne⟩]
    have ES : lnS s k v = s := by unfold lnS; rw [E]; rfl
    rw [E, ES]
    have hv : (v.toList == kv.toList) = false := by rw [str_eq]; simpa using hne
    clear E ES h0 hT hC hk hne hg
    go_enter Try.func17, Try.ntmps17
    go_wp2_with (go_at_call 30; refine (lcheck_any p m s.n s.base u s.L false k v _ HT.out hn).mono ?_; rw [H0.out]; rintro e w' ⟨rfl, rfl⟩)
    go_returns
    exact ⟨rfl, HS.out.below (box_below _ _), Fr.of_below (box_below _ _)⟩
  · have E : lnE s k v = 0 := by unfold lnE; rw [if_neg (by rw [h0]; simp), HK.out, if_neg hs]
    have ES : lnS s k v = { s with L := put k ⟨true, v, kr, kd, kvo, ks⟩ s.L } := by unfold lnS; rw [if_pos E, HK.out]; rfl
    rw [E, ES]
    have hset : ks < 2 ^ s.n := by have := hg.kset k; rwa [hk] at this
    have hG' := hg.puts (k := k) (e := ⟨true, v, kr, kd, kvo, ks⟩) ⟨hkb, hk1⟩ hset (fun h => by cases h)
    have HG' := Lib.hid hG'
    have hgr := grows_put (k := k) (e := ⟨true, v, kr, kd, kvo, ks⟩) hg.srt (fun _ => rfl)
    have HGR := Lib.hid hgr
    have HKI := Lib.hid hg.kin
    have hv : kc = false ∨ kc = true ∧ v = kv := by
      cases kc
      · exact .inl rfl
      · refine .inr ⟨rfl, Classical.byContradiction fun hne => hs ⟨rfl, hne⟩⟩
    clear E ES h0 hT hC hk hs hg hset hG' hgr
    go_enter Try.func17, Try.ntmps17
    go_upto_region 5 with (first | (go_at_call 30; refine (lcheck_any p m s.n s.base u s.L false k v _ HT.out hn).mono ?_; rw [H0.out]; rintro e w' ⟨rfl, rfl⟩))
    have hbw := box_below w (.cells #[.bool kc, .string kv, .int .i64 kr, .int .i64 kd, .string kvo, .int .u64 (ks : Int)] 77)
    have HBW := Lib.hid hbw
    have KB := Lib.hid (Blk.new w 77 #[.bool kc, .string kv, .int .i64 kr, .int .i64 kd, .string kvo, .int .u64 (ks : Int)])
    have T1 := Lib.hid (HT.out.below hbw)
    generalize (w.alloc (.cells #[.bool kc, .string kv, .int .i64 kr, .int .i64 kd, .string kvo, .int .u64 (ks : Int)] 77)) = W1 at *
    obtain ⟨kb, hkb2⟩ : ∃ kb, kb = w.heap.size := ⟨_, rfl⟩
    rw [← hkb2] at KB ⊢
    have npb : ¬ p = kb := by omega
    have nmb : ¬ m = kb := by omega
    have hkb3 : w.heap.size ≤ kb := by omega
    clear hkb2
    have e0 := KB.out.cell (i := 0) (v := .bool kc) rfl
    have e1 := KB.out.cell (i := 1) (v := .string kv) rfl
    have e2 := KB.out.cell (i := 2) (v := .int .i64 kr) rfl
    have e3 := KB.out.cell (i := 3) (v := .int .i64 kd) rfl
    have e4 := KB.out.cell (i := 4) (v := .string kvo) rfl
    have e5 := KB.out.cell (i := 5) (v := .int .u64 (ks : Int)) rfl
    have z0 := KB.out.frozen 0
    have z1 := KB.out.frozen 1
    clear hbw hlk c3
    have hf : Fr (S1 kb) W1 ((W1.setCell ⟨kb, 0, none⟩ (.bool true)).setCell ⟨kb, 1, none⟩ (.string v)) := ((Fr.refl (S1 kb) W1).setCell (p := ⟨kb, 0, none⟩) (.inl (show S1 kb kb from rfl)) _).setCell (p := ⟨kb, 1, none⟩) (.inl (show S1 kb kb from rfl)) _
    have T2 := Lib.hid (T1.out.fr hf npb nmb)
    have F2 := Lib.hid hf
    clear hf
    have harm : ∀ W, LAt W p m s.n s.base u s.L → Calls Try.prog 35 #[.pointer (some ⟨p, 0, none⟩), .int .i64 k, .agg #[.bool true, .string v, .int .i64 kr, .int .i64 kd, .string kvo, .int .u64 (ks : Int)]] W _ := fun W hW => put_any p m s.n s.base u s.L k ⟨true, v, kr, kd, kvo, ks⟩ W hW ⟨hu0, hu⟩ HKI.out ⟨hk0, hk1⟩ hll
    rcases hv with rfl | ⟨rfl, rfl⟩
    · go_upto_region 8 with fail
      go_wp2_with (first | (go_at_call 35; refine (harm _ T2.out).mono ?_; rintro e w6 ⟨rfl, u', h1, h2, h3, h4⟩; have F6 := Lib.hid h4; have T6 := Lib.hid h3; have C6 := Lib.hid h1; clear h4 h3 h1))
      go_returns
      exact ⟨rfl, ⟨⟨u', T6.out, climbs_put HC.out HGR.out C6.out, h2⟩, HG'.out⟩, ((Fr.of_below HBW.out).trans' F2.out (fun i h1 h2 => by have h2 : i = kb := h2; omega)).trans F6.out⟩
    · go_wp2_with (first | (go_at_call 35; refine (harm _ T2.out).mono ?_; rintro e w6 ⟨rfl, u', h1, h2, h3, h4⟩; have F6 := Lib.hid h4; have T6 := Lib.hid h3; have C6 := Lib.hid h1; clear h4 h3 h1))
      go_returns
      exact ⟨rfl, ⟨⟨u', T6.out, climbs_put HC.out HGR.out C6.out, h2⟩, HG'.out⟩, ((Fr.of_below HBW.out).trans' F2.out (fun i h1 h2 => by have h2 : i = kb := h2; omega)).trans F6.out⟩

theorem chosen_S (p m : Nat) (s : LSt) (k : Int) (w : World) (h : LS w p m s) (hk : in64 k) :
    Calls Try.prog 13 #[.pointer (some ⟨p, 0, none⟩), .int .i64 k] w fun e w' => e = .returned (.tuple #[.string (kget k s.L).v, .bool (kget k s.L).c]) ∧ Below w.heap.size w w' := by
  have hn := h.npos
  obtain ⟨⟨u, hT, _, _⟩, _⟩ := h
  have c0 := hT.c0
  have c3 := hT.c3
  have hlk := look_run hT.map k hk
  obtain ⟨⟨kc, kv, kr, kd, kvo, ks⟩, hk⟩ : ∃ e, kget k s.L = e := ⟨_, rfl⟩
  rw [hk] at hlk ⊢
  simp only [knV] at hlk
  clear hk hT
  have hb := box_below w (.cells #[.bool kc, .string kv, .int .i64 kr, .int .i64 kd, .string kvo, .int .u64 (ks : Int)] 77)
  go_enter Try.func13, Try.ntmps13
  go_wp2_with (go_at_call 31; refine (lvalid p s.n _ c0 hn).mono ?_; rintro e w' ⟨rfl, rfl⟩)
  go_quiet (fail)
  go_wp2_with fail
  go_returns
  first | exact ⟨rfl, hb⟩ | exact ⟨rfl, hb.drew⟩ | exact ⟨rfl, below_drewN hb _⟩
theorem upto_S (p m : Nat) (s : LSt) (w : World) (h : LS w p m s) :
    Calls Try.prog 19 #[.pointer (some ⟨p, 0, none⟩)] w fun e w' => (∃ u, e = .returned (.int .i64 u) ∧ Climbs s.L s.base u ∧ u ≤ 4096) ∧ w = w' := by
  have hn := h.npos
  obtain ⟨⟨u, hT, hC, hu⟩, _⟩ := h
  have c0 := hT.c0
  have c2 := hT.c2
  have HC := Lib.hid hC
  clear hT hC
  go_enter Try.func19, Try.ntmps19
  go_wp2_with (go_at_call 31; refine (lvalid p s.n _ c0 hn).mono ?_; rintro e w' ⟨rfl, rfl⟩)
  go_returns
  exact ⟨⟨u, rfl, HC.out, hu⟩, rfl⟩
set_option maxRecDepth 100000 in
theorem votes_S (p m : Nat) (s : LSt) (k : Int) (w : World) (h : LS w p m s) (hk : in64 k) :
    Calls Try.prog 14 #[.pointer (some ⟨p, 0, none⟩), .int .i64 k] w fun e w' => e = .returned (.tuple #[balV (kget k s.L).r (kget k s.L).d, .int .u64 ((kget k s.L).set : Int)]) ∧ Below w.heap.size w w' := by
  have hn := h.npos
  have hb0 := box_below w (.cells #[.int .i64 0, .int .i64 0] 31)
  have h := h.below hb0
  obtain ⟨⟨u, hT, _, _⟩, _⟩ := h
  have c0 := hT.c0
  have c3 := hT.c3
  have hlk := look_run hT.map k hk
  obtain ⟨⟨kc, kv, kr, kd, kvo, ks⟩, hk⟩ : ∃ e, kget k s.L = e := ⟨_, rfl⟩
  rw [hk] at hlk ⊢
  simp only [knV] at hlk
  clear hk hT
  go_enter Try.func14, Try.ntmps14
  go_wp2_with (go_at_call 31; refine (lvalid p s.n _ c0 hn).mono ?_; rintro e w' ⟨rfl, rfl⟩)
  have hb1 := box_below (w.alloc (.cells #[.int .i64 0, .int .i64 0] 31)) (.cells #[.bool kc, .string kv, .int .i64 kr, .int .i64 kd, .string kvo, .int .u64 (ks : Int)] 77)
  have KA : Blk _ w.heap.size 31 #[.int .i64 0, .int .i64 0] := Blk.bel (Blk.new w 31 #[.int .i64 0, .int .i64 0]) hb1
  have KB := Blk.new (w.alloc (.cells #[.int .i64 0, .int .i64 0] 31)) 77 #[.bool kc, .string kv, .int .i64 kr, .int .i64 kd, .string kvo, .int .u64 (ks : Int)]
  rw [World.size_alloc] at KB
  have B2 := Lib.hid (bchain hb0 hb1)
  generalize ((w.alloc (.cells #[.int .i64 0, .int .i64 0] 31)).alloc (.cells #[.bool kc, .string kv, .int .i64 kr, .int .i64 kd, .string kvo, .int .u64 (ks : Int)] 77)) = W2 at *
  obtain ⟨ba, hba⟩ : ∃ ba, ba = w.heap.size := ⟨_, rfl⟩
  obtain ⟨bk, hbk⟩ : ∃ bk, bk = w.heap.size + 1 := ⟨_, rfl⟩
  rw [← hbk] at KB ⊢
  rw [← hba] at KA ⊢
  have hne : ¬ ba = bk := by omega
  have hba2 : w.heap.size ≤ ba := by omega
  clear hba hbk c0 c3 hlk h hb0 hb1
  have e2 := KB.cell (i := 2) (v := .int .i64 kr) rfl
  have e3 := KB.cell (i := 3) (v := .int .i64 kd) rfl
  have e5 := KB.cell (i := 5) (v := .int .u64 (ks : Int)) rfl
  have a0 := KA.cell (i := 0) (v := .int .i64 0) rfl
  have a1 := KA.cell (i := 1) (v := .int .i64 0) rfl
  have z0 := KA.frozen 0
  have z1 := KA.frozen 1
  have s0 := (KA.set 0 (.int .i64 kr)).cell (i := 0) (v := .int .i64 kr) rfl
  have s1 := ((KA.set 0 (.int .i64 kr)).set 1 (.int .i64 kd)).cell (i := 1) (v := .int .i64 kd) rfl
  have s2 := ((KA.set 0 (.int .i64 kr)).set 1 (.int .i64 kd)).cell (i := 0) (v := .int .i64 kr) rfl
  have BL := Lib.hid ((((Fr.refl (S1 ba) W2).setCell (p := ⟨ba, 0, none⟩) (.inl (show S1 ba ba from rfl)) (.int .i64 kr)).setCell (p := ⟨ba, 1, none⟩) (.inl (show S1 ba ba from rfl)) (.int .i64 kd)).below B2.out.size (fun i e => by have e : i = ba := e; omega))
  have KB2 := (KB.setOther (p := ⟨ba, 0, none⟩) (fun e => hne e.symm) (.int .i64 kr)).setOther (p := ⟨ba, 1, none⟩) (fun e => hne e.symm) (.int .i64 kd)
  have y2 := KB2.cell (i := 2) (v := .int .i64 kr) rfl
  have y3 := KB2.cell (i := 3) (v := .int .i64 kd) rfl
  have y5 := KB2.cell (i := 5) (v := .int .u64 (ks : Int)) rfl
  clear KB2
  go_region_held3 (fun W => W.cell? ⟨bk, 2, none⟩ = some (.int .i64 kr) ∧ W.cell? ⟨bk, 3, none⟩ = some (.int .i64 kd) ∧ W.cell? ⟨bk, 5, none⟩ = some (.int .u64 (ks : Int)))
    (first | exact ⟨by assumption, by assumption, by assumption⟩ | exact ⟨y2, y3, y5⟩ | go_keep)
    (first | fail)
  go_wp2_with fail
  clear y2 y3 y5
  have r0 : (((W2.setCell ⟨ba, 0, none⟩ (.int .i64 kr)).setCell ⟨ba, 1, none⟩ (.int .i64 kd)).drew).cell? ⟨ba, 0, none⟩ = some (.int .i64 kr) := s2
  have r1 : (((W2.setCell ⟨ba, 0, none⟩ (.int .i64 kr)).setCell ⟨ba, 1, none⟩ (.int .i64 kd)).drew).cell? ⟨ba, 1, none⟩ = some (.int .i64 kd) := s1
  have BL2 : Hid (Below W2.heap.size W2 W2 → Below w.heap.size w (((W2.setCell ⟨ba, 0, none⟩ (.int .i64 kr)).setCell ⟨ba, 1, none⟩ (.int .i64 kd)).drew)) := fun _ => (B2.out.trans BL.out).drew
  clear s0 s1 s2 a0 a1 z0 z1 e2 e3 e5 KA KB BL
  generalize ((W2.setCell ⟨ba, 0, none⟩ (.int .i64 kr)).setCell ⟨ba, 1, none⟩ (.int .i64 kd)).drew = W3 at *
  (try simp only [Exit.inBlock, Exit.then])
  refine bodyPost_ret (by simp [results, Try.results14, go_sem, r0, r1]; try rfl) rfl ?_
  first | exact ⟨rfl, BL2.out (Below.refl _ _)⟩ | exact ⟨rfl, B2.out.trans BL.out⟩ | exact ⟨rfl, (B2.out.trans BL.out).drew⟩
end Go.Proofs.Ytnnadpbfidfhoaa
