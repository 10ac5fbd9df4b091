/- The reference's learner: Chosen, Votes, Upto, Learn. -/
import Derived.Test.YtnnadpbfidfhoaaRLearnB
set_option linter.unusedVariables false
set_option linter.unusedSimpArgs false
namespace Go.Proofs.Ytnnadpbfidfhoaa
open Go.RowKit Go.Maps Go.Shelf

theorem rlchosen_any (p : Nat) (v : Value) (s : LSt) (R : KL) (k : Int) (w : World) (h : RLAt w p v s R) :
    Calls Try.prog 45 #[.pointer (some ⟨p, 0, none⟩), .int .i64 k] w fun e w' => e = .returned (.tuple #[.string (kget k s.L).v, .bool (kget k s.L).c]) ∧ Below w.heap.size w w' := by
  obtain ⟨⟨kc, kv, kr, kd, kvo, ks⟩, hk⟩ : ∃ e, kget k s.L = e := ⟨_, rfl⟩
  rw [hk]
  have HT := Lib.hid h
  have HK := Lib.hid hk
  clear h hk
  go_enter Try.func45, Try.ntmps45
  go_wp2_with (go_at_call 40; refine (rlget_any p v s R k _ HT.out _ _ _ _ _ _ HK.out).mono ?_; rintro e w1 ⟨rfl, b1⟩; have B1 := Lib.hid (b1.alloc b1.size (.cells #[.int .i64 k, .bool kc, .string kv, .int .i64 kr, .int .i64 kd, .string kvo, .int .u64 (ks : Int)] 87)); clear b1)
  go_quiet (fail)
  go_wp2_with fail
  go_returns
  first | exact ⟨rfl, B1.out⟩ | exact ⟨rfl, B1.out.drew⟩ | exact ⟨rfl, below_drewN B1.out _⟩

set_option maxRecDepth 100000 in
theorem rlvotes_any (p : Nat) (v : Value) (s : LSt) (R : KL) (k : Int) (w : World) (h : RLAt w p v s R) :
    Calls Try.prog 46 #[.pointer (some ⟨p, 0, none⟩), .int .i64 k] w fun e w' => e = .returned (.tuple #[balV (kget k s.L).r (kget k s.L).d, .int .u64 ((kget k s.L).set : Int)]) ∧ Below w.heap.size w w' := by
  obtain ⟨⟨kc, kv, kr, kd, kvo, ks⟩, hk⟩ : ∃ e, kget k s.L = e := ⟨_, rfl⟩
  rw [hk]
  have hb := box_below w (.cells #[.int .i64 0, .int .i64 0] 31)
  have HT := Lib.hid (h.below hb)
  have HB := Lib.hid hb
  have bk := Blk.new w 31 #[.int .i64 0, .int .i64 0]
  have BK := Lib.hid bk
  have HK := Lib.hid hk
  clear h hk hb bk
  go_enter Try.func46, Try.ntmps46
  go_wp2_with (go_at_call 40; refine (rlget_any p v s R k _ HT.out _ _ _ _ _ _ HK.out).mono ?_; rintro e w1 ⟨rfl, b1⟩; have B1 := Lib.hid (bchain HB.out b1); have KA0 := Lib.hid (BK.out.bel b1); have hlt := BK.out.lt; have hsz := b1.size; clear b1)
  have hb1 := box_below w1 (.cells #[.int .i64 k, .bool kc, .string kv, .int .i64 kr, .int .i64 kd, .string kvo, .int .u64 (ks : Int)] 87)
  have KA : Blk _ w.heap.size 31 #[.int .i64 0, .int .i64 0] := Blk.bel KA0.out hb1
  have KB := Blk.new w1 87 #[.int .i64 k, .bool kc, .string kv, .int .i64 kr, .int .i64 kd, .string kvo, .int .u64 (ks : Int)]
  have B2 := Lib.hid (bchain B1.out hb1)
  generalize (w1.alloc (.cells #[.int .i64 k, .bool kc, .string kv, .int .i64 kr, .int .i64 kd, .string kvo, .int .u64 (ks : Int)] 87)) = W2 at *
  obtain ⟨ba, hba⟩ : ∃ ba, ba = w.heap.size := ⟨_, rfl⟩
  obtain ⟨bk, hbk⟩ : ∃ bk, bk = w1.heap.size := ⟨_, rfl⟩
  rw [← hbk] at KB ⊢
  rw [← hba] at KA hlt ⊢
  have hne : ¬ ba = bk := by omega
  have hba2 : w.heap.size ≤ ba := by omega
  clear hba hbk HT HB BK KA0 B1 hb1 hlt hsz
  have e2 := KB.cell (i := 3) (v := .int .i64 kr) rfl
  have e3 := KB.cell (i := 4) (v := .int .i64 kd) rfl
  have e5 := KB.cell (i := 6) (v := .int .u64 (ks : Int)) rfl
  have a0 := KA.cell (i := 0) (v := .int .i64 0) rfl
  have a1 := KA.cell (i := 1) (v := .int .i64 0) rfl
  have z0 := KA.frozen 0
  have z1 := KA.frozen 1
  have s0 := (KA.set 0 (.int .i64 kr)).cell (i := 0) (v := .int .i64 kr) rfl
  have s1 := ((KA.set 0 (.int .i64 kr)).set 1 (.int .i64 kd)).cell (i := 1) (v := .int .i64 kd) rfl
  have s2 := ((KA.set 0 (.int .i64 kr)).set 1 (.int .i64 kd)).cell (i := 0) (v := .int .i64 kr) rfl
  have BL := Lib.hid ((((Fr.refl (S1 ba) W2).setCell (p := ⟨ba, 0, none⟩) (.inl (show S1 ba ba from rfl)) (.int .i64 kr)).setCell (p := ⟨ba, 1, none⟩) (.inl (show S1 ba ba from rfl)) (.int .i64 kd)).below B2.out.size (fun i e => by have e : i = ba := e; omega))
  have KB2 := (KB.setOther (p := ⟨ba, 0, none⟩) (fun e => hne e.symm) (.int .i64 kr)).setOther (p := ⟨ba, 1, none⟩) (fun e => hne e.symm) (.int .i64 kd)
  have y2 := KB2.cell (i := 3) (v := .int .i64 kr) rfl
  have y3 := KB2.cell (i := 4) (v := .int .i64 kd) rfl
  have y5 := KB2.cell (i := 6) (v := .int .u64 (ks : Int)) rfl
  clear KB2
  go_region_held3 (fun W => W.cell? ⟨bk, 3, none⟩ = some (.int .i64 kr) ∧ W.cell? ⟨bk, 4, none⟩ = some (.int .i64 kd) ∧ W.cell? ⟨bk, 6, none⟩ = some (.int .u64 (ks : Int)))
    (first | exact ⟨by assumption, by assumption, by assumption⟩ | exact ⟨y2, y3, y5⟩ | go_keep)
    (first | fail)
  go_wp2_with fail
  clear y2 y3 y5
  have r0 : (((W2.setCell ⟨ba, 0, none⟩ (.int .i64 kr)).setCell ⟨ba, 1, none⟩ (.int .i64 kd)).drew).cell? ⟨ba, 0, none⟩ = some (.int .i64 kr) := s2
  have r1 : (((W2.setCell ⟨ba, 0, none⟩ (.int .i64 kr)).setCell ⟨ba, 1, none⟩ (.int .i64 kd)).drew).cell? ⟨ba, 1, none⟩ = some (.int .i64 kd) := s1
  have BL2 : Hid (Below W2.heap.size W2 W2 → Below w.heap.size w (((W2.setCell ⟨ba, 0, none⟩ (.int .i64 kr)).setCell ⟨ba, 1, none⟩ (.int .i64 kd)).drew)) := fun _ => (B2.out.trans BL.out).drew
  clear s0 s1 s2 a0 a1 z0 z1 e2 e3 e5 KA KB BL
  generalize ((W2.setCell ⟨ba, 0, none⟩ (.int .i64 kr)).setCell ⟨ba, 1, none⟩ (.int .i64 kd)).drew = W3 at *
  (try simp only [Exit.inBlock, Exit.then])
  refine bodyPost_ret (by simp [results, Try.results46, go_sem, r0, r1]; try rfl) rfl ?_
  first | exact ⟨rfl, BL2.out (Below.refl _ _)⟩ | exact ⟨rfl, B2.out.trans BL.out⟩ | exact ⟨rfl, (B2.out.trans BL.out).drew⟩
theorem Climbs.uniq {L : KL} {b u u' : Int} (h : Climbs L b u) (k : Climbs L b u') : u = u' := by
  by_cases h1 : u < u'
  · have := k.all u h.le h1; rw [h.stop] at this; cases this
  · by_cases h2 : u' < u
    · have := h.all u' k.le h2; rw [k.stop] at this; cases this
    · omega

set_option maxRecDepth 100000 in
set_option maxHeartbeats 2000000 in
theorem rlupto_any (p : Nat) (v : Value) (s : LSt) (R : KL) (w : World) (h : RLAt w p v s R) :
    Calls Try.prog 47 #[.pointer (some ⟨p, 0, none⟩)] w fun e w' => (∃ u, e = .returned (.int .i64 u) ∧ Climbs s.L s.base u ∧ u ≤ 4096) ∧ Below w.heap.size w w' := by
  have HT := Lib.hid h
  have c1 := h.c1
  have hb0 := h.good.base
  have HKI := Lib.hid h.good.kin
  clear h
  go_enter Try.func47, Try.ntmps47
  go_wp2_with fail
  go_loopw [3] (fun c wr => ∃ u : Int, c = .int .i64 u ∧ s.base ≤ u ∧ u ≤ 4096 ∧ (∀ i, s.base ≤ i → i < u → (kget i s.L).c = true) ∧ Below w.heap.size w wr) (fun c _ => (4096 - intOf c).toNat)
  case atStart => exact ⟨s.base, rfl, by omega, by omega, fun i h1 h2 => by omega, Below.refl _ _⟩
  case round =>
    obtain ⟨u, rfl, h1, h2, h3, hB⟩ := hrel
    have H3 := Lib.hid h3
    have T := Lib.hid (HT.out.below hB)
    clear h3
    cases hlt : decide (u < 4096) with
    | true =>
      obtain ⟨⟨kc, kv, kr, kd, kvo, ks⟩, hk⟩ : ∃ e, kget u s.L = e := ⟨_, rfl⟩
      have HK := Lib.hid hk
      have hfd : ∀ W : World, (Instr.field 87 (.agg #[.int .i64 u, .bool kc, .string kv, .int .i64 kr, .int .i64 kd, .string kvo, .int .u64 (ks : Int)]) 1).run Try.prog W = .ok (.bool kc) W := fun _ => by kernel_rfl
      cases kc with
      | true =>
        have H4 : Hid (∀ i, s.base ≤ i → i < u + 1 → (kget i s.L).c = true) := fun i i1 i2 => by
          by_cases hi : i = u
          · subst hi; rw [hk]
          · exact H3.out i i1 (by omega)
        have hlt' : u < 4096 := by simpa using hlt
        clear hk
        go_wp2_with (go_at_call 40; refine (rlget_any p v s R u _ T.out _ _ _ _ _ _ HK.out).mono ?_; rintro e w1 ⟨rfl, b1⟩; have B1 := Lib.hid (bchain hB b1); clear b1)
        go_roundw
        case rel => exact ⟨u + 1, by go_num, by omega, by omega, H4.out, B1.out⟩
        case measure => simp [intOf]; omega
      | false =>
        have HC : Hid (Climbs s.L s.base u) := ⟨h1, H3.out, by rw [hk]⟩
        clear hk
        go_wp2_with (go_at_call 40; refine (rlget_any p v s R u _ T.out _ _ _ _ _ _ HK.out).mono ?_; rintro e w1 ⟨rfl, b1⟩; have B1 := Lib.hid (bchain hB b1); clear b1)
        go_returns
        exact ⟨⟨u, rfl, HC.out, h2⟩, B1.out⟩
    | false =>
      have e : u = 4096 := by simp at hlt; omega
      have HC : Hid (Climbs s.L s.base u) := ⟨h1, H3.out, by
        cases hc : (kget u s.L).c with
        | false => rfl
        | true => have := kin_chosen HKI.out hc; omega⟩
      clear e
      go_wp2_with fail
      go_returns
      exact ⟨⟨u, rfl, HC.out, h2⟩, hB⟩

set_option maxRecDepth 100000 in
set_option maxHeartbeats 2000000 in
theorem rllearn_any (p : Nat) (v0 : Value) (s : LSt) (R : KL) (k : Int) (v : ByteArray) (w : World) (h : RLAt w p v0 s R) :
    Calls Try.prog 23 #[.pointer (some ⟨p, 0, none⟩), .int .i64 k, .string v] w fun e w' => e = .returned (.int .i64 (lnE s k v)) ∧ ∃ v' R', RLAt w' p v' (lnS s k v) R' ∧ Fr (S1 p) w w' := by
  have HT := Lib.hid h
  have c1 := h.c1
  have hg := h.good
  by_cases h0 : lchk s.base false k v.size = 0
  case neg =>
    have E : lnE s k v = lchk s.base false k v.size := by unfold lnE; rw [if_pos h0]
    have ES : lnS s k v = s := by unfold lnS; rw [E, if_neg h0]
    rw [E, ES]
    have h1 : (lchk s.base false k v.size == 0) = false := by simpa using h0
    clear E ES h0 h
    go_enter Try.func23, Try.ntmps23
    go_wp2_with (go_at_call 39; refine (rlcheck_any p s.base k v _ c1).mono ?_; rintro e w' ⟨rfl, rfl⟩)
    go_returns
    exact ⟨rfl, v0, R, HT.out, Fr.refl _ _⟩
  have H0 := Lib.hid h0
  obtain ⟨_, hk0, hk1, hlen, hkb⟩ := lchk_zero h0
  obtain ⟨⟨kc, kv, kr, kd, kvo, ks⟩, hk⟩ : ∃ e, kget k s.L = e := ⟨_, rfl⟩
  have HK := Lib.hid hk
  by_cases hs : kc = true ∧ v ≠ kv
  · obtain ⟨rfl, hne⟩ := hs
    have E : lnE s k v = 9 := by unfold lnE; rw [if_neg (by rw [h0]; simp), HK.out, if_pos ⟨rfl, hne⟩]
    have ES : lnS s k v = s := by unfold lnS; rw [E]; rfl
    rw [E, ES]
    have hv : (v.toList == kv.toList) = false := by rw [str_eq]; simpa using hne
    clear E ES h0 hk hne hg h
    go_enter Try.func23, Try.ntmps23
    go_wp2_with (first
      | (go_at_call 39; refine (rlcheck_any p s.base k v _ c1).mono ?_; rw [H0.out]; rintro e w' ⟨rfl, rfl⟩)
      | (go_at_call 40; refine (rlget_any p v0 s R k _ HT.out _ _ _ _ _ _ HK.out).mono ?_; rintro e w1 ⟨rfl, b1⟩; have B1 := Lib.hid (b1.alloc b1.size (.cells #[.int .i64 k, .bool true, .string kv, .int .i64 kr, .int .i64 kd, .string kvo, .int .u64 (ks : Int)] 87)); clear b1))
    go_returns
    exact ⟨rfl, v0, R, HT.out.below B1.out, Fr.of_below B1.out⟩
  · have E : lnE s k v = 0 := by unfold lnE; rw [if_neg (by rw [h0]; simp), HK.out, if_neg hs]
    have ES : lnS s k v = { s with L := put k ⟨true, v, kr, kd, kvo, ks⟩ s.L } := by unfold lnS; rw [if_pos E, HK.out]; rfl
    rw [E, ES]
    have hset : ks < 2 ^ s.n := by have := hg.kset k; rwa [hk] at this
    have HG' := Lib.hid (hg.puts (k := k) (e := ⟨true, v, kr, kd, kvo, ks⟩) ⟨hkb, hk1⟩ hset (fun h => by cases h))
    have hv : kc = false ∨ kc = true ∧ v = kv := by
      cases kc
      · exact .inl rfl
      · refine .inr ⟨rfl, Classical.byContradiction fun hne => hs ⟨rfl, hne⟩⟩
    clear E ES h0 hk hs hg hset h
    rcases hv with rfl | ⟨rfl, rfl⟩
    all_goals
      go_enter Try.func23, Try.ntmps23
      go_wp2_with (first
        | (go_at_call 39; refine (rlcheck_any p s.base k v _ c1).mono ?_; rw [H0.out]; rintro e w' ⟨rfl, rfl⟩)
        | (go_at_call 40; refine (rlget_any p v0 s R k _ HT.out _ _ _ _ _ _ HK.out).mono ?_; rintro e w1 ⟨rfl, b1⟩; have b2 := b1.alloc b1.size (.cells #[.int .i64 k, .bool true, .string v, .int .i64 kr, .int .i64 kd, .string kvo, .int .u64 (ks : Int)] 87); have B2 := Lib.hid b2; have T2 := Lib.hid (HT.out.below b2); clear b1 b2)
        | (go_at_call 43; refine (rlset_any p v0 s R k true v kr kd kvo ks _ T2.out HG'.out).mono ?_; rintro e w3 ⟨rfl, v', R', t3, f3⟩; have T3 := Lib.hid t3; have F3 := Lib.hid f3; clear t3 f3))
      go_returns
      exact ⟨rfl, _, _, T3.out, (Fr.of_below B2.out).trans F3.out⟩
end Go.Proofs.Ytnnadpbfidfhoaa
