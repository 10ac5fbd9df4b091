/- Package chosen: Check, All, Highest. -/
import Derived.Test.YthkdmpalhdifbaaGreatDoorChoJ
import Derived.Test.YthkdmpalhdifbaaGreatDoorChoQ
set_option linter.unusedVariables false
set_option linter.unusedSimpArgs false
namespace Go.Proofs.YthkdmpalhdifbaaGreatDoor
open Go.RowKit Go.Maps Go.Shelf Go.Sort

set_option maxRecDepth 100000 in
set_option maxHeartbeats 2000000 in
theorem check_yes (n : Nat) (v : Value) (L : List Vt) (A : GA) (w : World) (h : VotesIn w v L) (hn : 1 ≤ n ∧ n ≤ 7) (hl : L.length ≤ 1000) (hA : (gwalk n [] [] 0 L).1 = some A) :
    Calls Tryz.prog 15 #[v, .int .i64 (n : Int)] w fun e w' => e = .returned (.tuple #[.int .i64 0, .int .i64 0]) ∧ Below w.heap.size w w' := by
  have HV := Lib.hid h
  have HA := Lib.hid hA
  clear h hA
  go_enter Tryz.func15, Tryz.ntmps15
  go_wp2_with (go_at_call 33; refine (gather_some _ HV.out hn hl HA.out).mono ?_; rintro e w1 ⟨b, rfl, m1, hb, b1⟩; have B1 := Lib.hid b1; clear b1 m1 hb)
  go_returns
  exact ⟨rfl, B1.out⟩
set_option maxRecDepth 100000 in
set_option maxHeartbeats 2000000 in
theorem all_yes (n : Nat) (v : Value) (L : List Vt) (A : GA) (w : World) (h : VotesIn w v L) (hn : 1 ≤ n ∧ n ≤ 7) (hl : L.length ≤ 1000) (hA : (gwalk n [] [] 0 L).1 = some A) :
    Calls Tryz.prog 19 #[v, .int .i64 (n : Int)] w fun e w' => ∃ vo out dif, e = .returned (.tuple #[vo, .int .i64 0]) ∧ EnIn w' vo out ∧ POk n A out dif ∧ Below w.heap.size w w' := by
  have HV := Lib.hid h
  obtain ⟨g1, g2, g3⟩ := gok hn hA
  have HA := Lib.hid hA
  have G1 := Lib.hid g1
  have hal : A.length ≤ 1000 := by omega
  clear h hA g1 g2 g3
  go_enter Tryz.func19, Tryz.ntmps19
  go_wp2_with (first
    | (go_at_call 33; refine (gather_some _ HV.out hn hl HA.out).mono ?_; rintro e w1 ⟨b, rfl, m1, hb, b1⟩; have B1 := Lib.hid b1; have M1 := Lib.hid m1; clear b1 m1 hb)
    | (go_at_call 45; refine (picked_any n _ A _ M1.out hn G1.out.set G1.out.slot hal).mono ?_; rintro e w2 ⟨vo, out, dif, rfl, r2, p2, b2⟩; have B2 := Lib.hid (bchain B1.out b2); have R2 := Lib.hid r2.at; have P2 := Lib.hid p2; clear b2 p2 r2))
  go_returns
  exact ⟨vo, out, dif, rfl, R2.out, P2.out, B2.out⟩

def highR (Q : Nat) (s : Int) (L : List Vt) : Vt × Bool := match highL Q s L with
  | some y => (y, true)
  | none => (⟨0, 0, 0, 0, ⟨#[]⟩⟩, false)
abbrev encH (y : Vt) : Array Value := #[.int .i64 y.nd, .int .i64 y.r, .int .i64 y.d, .int .i64 y.sl, .string y.v]
theorem bit_one {n Q N : Nat} {tb : Bool} (hn : 1 ≤ n ∧ n ≤ 7) (hQ : Q < 2 ^ n) (hN : N < 7) (h : Q.testBit N = tb) : bits BinOp.and IntKind.u64 ((Q : Int) / 2 ^ N) 1 = if tb = true then 1 else 0 := by
  have hq : Q < 128 := Nat.lt_of_lt_of_le hQ (Nat.le_trans (Nat.pow_le_pow_right (by decide) hn.2) (by decide))
  have hd : Q / 2 ^ N < 128 := Nat.lt_of_le_of_lt (Nat.div_le_self _ _) hq
  have h1 := bitsAnd ⟨Q / 2 ^ N, hd⟩ ⟨1, by decide⟩
  simp only at h1
  rw [show ((Q : Int) / 2 ^ N) = ((Q / 2 ^ N : Nat) : Int) by simp]
  rw [show (1 : Int) = ((1 : Nat) : Int) from rfl, h1, Nat.and_one_is_mod]
  rw [Nat.testBit_eq_decide_div_mod_eq] at h
  subst h
  by_cases hc : Q / 2 ^ N % 2 = 1
  · simp [hc]
  · have : Q / 2 ^ N % 2 = 0 := by omega
    simp [this]
set_option maxRecDepth 100000 in
set_option maxHeartbeats 4000000 in
theorem highest_yes (n Q : Nat) (v : Value) (L : List Vt) (A : GA) (s : Int) (w : World) (h : VotesIn w v L) (hn : 1 ≤ n ∧ n ≤ 7) (hl : L.length ≤ 1000) (hA : (gwalk n [] [] 0 L).1 = some A) (hP : Poss n L)
    (hQ : Q < 2 ^ n) (hs : (decide (s ≥ 0) && decide (s < 4096)) = true) :
    Calls Tryz.prog 12 #[v, .int .u64 (Q : Int), .int .i64 (n : Int), .int .i64 s] w fun e w' =>
      e = .returned (.tuple #[vtV (highR Q s L).1, .bool (highR Q s L).2, .int .i64 0]) ∧ Below w.heap.size w w' := by
  have HV := Lib.hid h
  have HA := Lib.hid hA
  have HP := Lib.hid hP
  clear h hA hP
  have hq0 : ((Q : Int) / 2 ^ n != 0) = false := by
    rw [show ((Q : Int) / 2 ^ n) = ((Q / 2 ^ n : Nat) : Int) by simp, Nat.div_eq_of_lt hQ]; rfl
  go_enter Tryz.func12, Tryz.ntmps12
  go_upto_region 4 with (first
    | (go_at_call 33; refine (gather_some _ (HV.out.below (box_below _ _)) hn hl HA.out).mono ?_; rintro e w1 ⟨b, rfl, m1, hb, b1⟩; have B1 := Lib.hid b1; clear b1 m1 hb))
  have B2 := Lib.hid (bchain (box_below w (.cells #[.int .i64 0, .int .i64 0, .int .i64 0, .int .i64 0, .string ⟨#[]⟩] 35)) B1.out)
  have KR := Lib.hid ((Blk.new w 35 #[.int .i64 0, .int .i64 0, .int .i64 0, .int .i64 0, .string ⟨#[]⟩]).fr (Fr.of_below B1.out : Fr S0 _ _) (fun h => h))
  have hwl := B1.out.size
  rw [World.size_alloc] at hwl
  clear B1
  obtain ⟨br, hbr⟩ : ∃ br, br = w.heap.size := ⟨_, rfl⟩
  rw [← hbr] at KR ⊢
  have hbrw : w.heap.size ≤ br := by omega
  have hbr1 : br < w1.heap.size := KR.out.lt
  clear hbr
  go_upto_region 10 with (go_at_call 35; refine (isSlot_any _ _).mono ?_; rw [hs]; rintro e w' ⟨rfl, rfl⟩)
  have bl := box_below w1 (.cells #[.int .i64 0, .int .i64 0, .int .i64 0, .int .i64 0, .string ⟨#[]⟩] 35)
  have KB := Lib.hid (Blk.new w1 35 #[.int .i64 0, .int .i64 0, .int .i64 0, .int .i64 0, .string ⟨#[]⟩])
  have KR2 := Lib.hid (KR.out.alloc (.cells #[.int .i64 0, .int .i64 0, .int .i64 0, .int .i64 0, .string ⟨#[]⟩] 35))
  have B3 := Lib.hid (bchain B2.out bl)
  generalize (w1.alloc (.cells #[.int .i64 0, .int .i64 0, .int .i64 0, .int .i64 0, .string ⟨#[]⟩] 35)) = W3 at *
  obtain ⟨bb, hbb⟩ : ∃ bb, bb = w1.heap.size := ⟨_, rfl⟩
  rw [← hbb] at KB hbr1 ⊢
  have hbbr : ¬ br = bb := by omega
  have hbbw : w.heap.size ≤ bb := by omega
  clear hbb bl KR B2 hwl hbr1
  obtain ⟨A0, cap0, rfl, hcap0, hmax0, hcells⟩ := HV.out
  have HC := Lib.hid hcells
  have hml : cap0 ≤ 9223372036854775807 := by unfold maxLen at hmax0; omega
  clear hcells hmax0
  go_wp2_with fail
  go_loopg [44, 15] L.length (fun g c f wi => ∃ i : Nat, i ≤ L.length ∧ g = L.length - i ∧ c = .int .i64 i ∧ f = .bool (highL Q s (L.take i)).isSome ∧ Blk wi bb 35 (encH ((highL Q s (L.take i)).getD ⟨0, 0, 0, 0, ⟨#[]⟩⟩)) ∧ Blk wi br 35 #[.int .i64 0, .int .i64 0, .int .i64 0, .int .i64 0, .string ⟨#[]⟩] ∧ Fr (S1 bb) W3 wi)
  case atStart => exact ⟨0, by omega, rfl, rfl, rfl, KB.out, KR2.out, Fr.refl _ _⟩
  case round =>
    obtain ⟨i, hi, rfl, rfl, rfl, hkb, hkr, hfr⟩ := hrel
    obtain ⟨⟨bnd, bbr, bd, bsl, bv⟩, hbe⟩ : ∃ y, (highL Q s (L.take i)).getD ⟨0, 0, 0, 0, ⟨#[]⟩⟩ = y := ⟨_, rfl⟩
    obtain ⟨fd, hfd⟩ : ∃ fd, (highL Q s (L.take i)).isSome = fd := ⟨_, rfl⟩
    rw [hbe] at hkb
    rw [hfd]
    have KBi : Hid (Blk wr bb 35 #[.int .i64 bnd, .int .i64 bbr, .int .i64 bd, .int .i64 bsl, .string bv]) := hkb
    have KRi := Lib.hid hkr
    have Fi := Lib.hid hfr
    have BE := Lib.hid hbe
    have FD := Lib.hid hfd
    clear hkb hkr hfr hbe hfd
    by_cases hlt : i < L.length
    case neg =>
      have e : i = L.length := by omega
      subst e
      have HR : Hid (highR Q s L = (⟨bnd, bbr, bd, bsl, bv⟩, fd)) := by
        have h1 := BE.out
        have h2 := FD.out
        rw [List.take_length] at h1 h2
        rw [Hid]; unfold highR
        cases hh : highL Q s L with
        | none => rw [hh] at h1 h2; cases h1; cases h2; rfl
        | some y => rw [hh] at h1 h2; cases h1; cases h2; rfl
      have b0 := KBi.out.cell (i := 0) (v := .int .i64 bnd) rfl
      have b1 := KBi.out.cell (i := 1) (v := .int .i64 bbr) rfl
      have b2 := KBi.out.cell (i := 2) (v := .int .i64 bd) rfl
      have b3 := KBi.out.cell (i := 3) (v := .int .i64 bsl) rfl
      have b4 := KBi.out.cell (i := 4) (v := .string bv) rfl
      have r0 := KRi.out.cell (i := 0) (v := .int .i64 0) rfl
      have r1 := KRi.out.cell (i := 1) (v := .int .i64 0) rfl
      have r2 := KRi.out.cell (i := 2) (v := .int .i64 0) rfl
      have r3 := KRi.out.cell (i := 3) (v := .int .i64 0) rfl
      have r4 := KRi.out.cell (i := 4) (v := .string ⟨#[]⟩) rfl
      have z0 := KRi.out.frozen 0
      have z1 := KRi.out.frozen 1
      have z2 := KRi.out.frozen 2
      have z3 := KRi.out.frozen 3
      have z4 := KRi.out.frozen 4
      have F9 := Lib.hid (((((Fi.out.mono (S' := S2 bb br) (fun i h => .inl h)).setCell (p := ⟨br, 0, none⟩) (.inl (.inr rfl)) (.int .i64 bnd)).setCell (p := ⟨br, 1, none⟩) (.inl (.inr rfl)) (.int .i64 bbr)).setCell (p := ⟨br, 2, none⟩) (.inl (.inr rfl)) (.int .i64 bd)).setCell (p := ⟨br, 3, none⟩) (.inl (.inr rfl)) (.int .i64 bsl) |>.setCell (p := ⟨br, 4, none⟩) (.inl (.inr rfl)) (.string bv))
      have g0 := KRi.out.set 0 (.int .i64 bnd)
      have g1 := g0.set 1 (.int .i64 bbr)
      have g2 := g1.set 2 (.int .i64 bd)
      have g3 := g2.set 3 (.int .i64 bsl)
      have g4 := g3.set 4 (.string bv)
      have c0 := g0.cell (i := 0) (v := .int .i64 bnd) rfl
      have c1 := g1.cell (i := 1) (v := .int .i64 bbr) rfl
      have c2 := g2.cell (i := 2) (v := .int .i64 bd) rfl
      have c3 := g3.cell (i := 3) (v := .int .i64 bsl) rfl
      have c4 := g4.cell (i := 4) (v := .string bv) rfl
      clear g0 g1 g2 g3 g4
      go_wp2_with fail
      refine bodyPost_ret (by simp [results, Tryz.results12, go_sem, c0, c1, c2, c3, c4]; try rfl) rfl ?_
      rw [HR.out]
      exact ⟨rfl, Fr.upB B3.out F9.out (fun i e => by rcases e with e | e <;> (have e : i = _ := e; omega))⟩
    case pos =>
    obtain ⟨b0', off, rfl, hb, hcells⟩ := HC.out (by omega)
    obtain ⟨⟨xnd, r, d, sl, xv⟩, hs'⟩ : ∃ x, L[i]? = some x := ⟨_, List.getElem?_eq_getElem hlt⟩
    have hxm := List.mem_of_getElem? hs'
    have hxa := (alone_r hn (HP.out.al _ hxm)).1
    obtain ⟨N, rfl⟩ : ∃ N : Nat, xnd = (N : Int) := ⟨xnd.toNat, by simp only at hxa; omega⟩
    have hN7 : N < 7 := by simp only at hxa; omega
    have HS : Hid (highL Q s (L.take (i + 1)) = hStep Q s (highL Q s (L.take i)) ⟨N, r, d, sl, xv⟩) := by
      rw [Hid, List.take_add_one, hs']
      exact highL_snoc Q s _ _
    obtain ⟨q0, q1, q2, q3, q4⟩ := hcells i _ hs'
    simp only at q0 q1 q2 q3 q4
    have hne : b0' ≠ bb := by omega
    have hF : ∀ o v, w.cell? ⟨b0', o, none⟩ = some v → wr.cell? ⟨b0', o, none⟩ = some v := fun o v h => Fi.out.cell (p := ⟨b0', o, none⟩) (fun e => hne e) (bcell B3.out h)
    have q0 := hF _ _ q0
    have q1 := hF _ _ q1
    have q2 := hF _ _ q2
    have q3 := hF _ _ q3
    have q4 := hF _ _ q4
    clear hs' hxm hxa hcells hF
    go_upto_region 13 with fail
    have bw := box_below wr (.cells #[.int .i64 (N : Int), .int .i64 r, .int .i64 d, .int .i64 sl, .string xv] 35)
    have KX := Lib.hid (Blk.new wr 35 #[.int .i64 (N : Int), .int .i64 r, .int .i64 d, .int .i64 sl, .string xv])
    have KB2 := Lib.hid (KBi.out.fr (Fr.of_below bw : Fr S0 _ _) (fun h => h))
    have KR2' := Lib.hid (KRi.out.fr (Fr.of_below bw : Fr S0 _ _) (fun h => h))
    have F2 := Lib.hid (Fi.out.trans (Fr.of_below bw))
    have hbl := KBi.out.lt
    have hrl := KRi.out.lt
    obtain ⟨W4, hW4⟩ : ∃ W4, W4 = (wr.alloc (.cells #[.int .i64 (N : Int), .int .i64 r, .int .i64 d, .int .i64 sl, .string xv] 35)) := ⟨_, rfl⟩
    rw [← hW4] at bw KX KB2 KR2' F2 ⊢
    obtain ⟨bx, hbx⟩ : ∃ bx, bx = wr.heap.size := ⟨_, rfl⟩
    rw [← hbx] at KX hbl hrl ⊢
    have hbxb : ¬ bx = bb := by omega
    clear hW4 hbx bw q0 q1 q2 q3 q4 KBi KRi Fi hbl hrl
    have x0 := KX.out.cell (i := 0) (v := .int .i64 (N : Int)) rfl
    have x1 := KX.out.cell (i := 1) (v := .int .i64 r) rfl
    have x2 := KX.out.cell (i := 2) (v := .int .i64 d) rfl
    have x3 := KX.out.cell (i := 3) (v := .int .i64 sl) rfl
    have x4 := KX.out.cell (i := 4) (v := .string xv) rfl
    cases hsl : (sl != s) with
    | true =>
      have E : Hid (hStep Q s (highL Q s (L.take i)) ⟨N, r, d, sl, xv⟩ = highL Q s (L.take i)) := by
        rw [Hid]; unfold hStep hPick
        rw [show decide (sl = s) = false by simpa using hsl]
        rfl
      go_wp2_with fail
      go_roundg (L.length - (i + 1))
      case measure => omega
      case rel => exact ⟨i + 1, by omega, rfl, by go_num, by rw [HS.out, E.out, FD.out], by rw [HS.out, E.out, BE.out]; exact KB2.out, KR2'.out, F2.out⟩
    | false =>
      have hse : sl = s := by simpa using hsl
      obtain ⟨tb, htb⟩ : ∃ tb, Q.testBit N = tb := ⟨_, rfl⟩
      have hbit := bit_one (n := n) hn hQ hN7 htb
      have PK : Hid (hPick Q s ⟨N, r, d, sl, xv⟩ = tb) := by
        rw [Hid]; unfold hPick
        simp only [Int.toNat_natCast, htb, hse, decide_true, Bool.true_and]
      clear hse htb
      cases tb with
      | false =>
        have E : Hid (hStep Q s (highL Q s (L.take i)) ⟨N, r, d, sl, xv⟩ = highL Q s (L.take i)) := by
          rw [Hid]; unfold hStep; rw [PK.out]; rfl
        go_wp2_with fail
        go_roundg (L.length - (i + 1))
        case measure => omega
        case rel => exact ⟨i + 1, by omega, rfl, by go_num, by rw [HS.out, E.out, FD.out], by rw [HS.out, E.out, BE.out]; exact KB2.out, KR2'.out, F2.out⟩
      | true =>
        have y1 := KB2.out.cell (i := 1) (v := .int .i64 bbr) rfl
        have y2 := KB2.out.cell (i := 2) (v := .int .i64 bd) rfl
        go_upto_region 15 with (go_at_call 36; refine (order_any _ _ _ _ _).mono ?_; rintro e w5 ⟨rfl, b5⟩; have B5 := Lib.hid b5; clear b5)
        have KX5 := Lib.hid (KX.out.fr (Fr.of_below B5.out : Fr S0 _ _) (fun h => h))
        have KB5 := Lib.hid (KB2.out.fr (Fr.of_below B5.out : Fr S0 _ _) (fun h => h))
        have KR5 := Lib.hid (KR2'.out.fr (Fr.of_below B5.out : Fr S0 _ _) (fun h => h))
        have F5 := Lib.hid (F2.out.trans (Fr.of_below B5.out))
        clear x0 x1 x2 x3 x4 y1 y2 KX KB2 KR2' F2 B5
        have x0 := KX5.out.cell (i := 0) (v := .int .i64 (N : Int)) rfl
        have x1 := KX5.out.cell (i := 1) (v := .int .i64 r) rfl
        have x2 := KX5.out.cell (i := 2) (v := .int .i64 d) rfl
        have x3 := KX5.out.cell (i := 3) (v := .int .i64 sl) rfl
        have x4 := KX5.out.cell (i := 4) (v := .string xv) rfl
        have y0 := KB5.out.cell (i := 0) (v := .int .i64 bnd) rfl
        have y1 := KB5.out.cell (i := 1) (v := .int .i64 bbr) rfl
        have y2 := KB5.out.cell (i := 2) (v := .int .i64 bd) rfl
        have y3 := KB5.out.cell (i := 3) (v := .int .i64 bsl) rfl
        have y4 := KB5.out.cell (i := 4) (v := .string bv) rfl
        have z0 := KB5.out.frozen 0
        have z1 := KB5.out.frozen 1
        have z2 := KB5.out.frozen 2
        have z3 := KB5.out.frozen 3
        have z4 := KB5.out.frozen 4
        have KT : Hid (Blk (((((w5.setCell ⟨bb, 0, none⟩ (.int .i64 (N : Int))).setCell ⟨bb, 1, none⟩ (.int .i64 r)).setCell ⟨bb, 2, none⟩ (.int .i64 d)).setCell ⟨bb, 3, none⟩ (.int .i64 sl)).setCell ⟨bb, 4, none⟩ (.string xv)) bb 35 #[.int .i64 (N : Int), .int .i64 r, .int .i64 d, .int .i64 sl, .string xv]) := ((((KB5.out.set 0 (.int .i64 (N : Int))).set 1 (.int .i64 r)).set 2 (.int .i64 d)).set 3 (.int .i64 sl)).set 4 (.string xv)
        have KRT := Lib.hid (((((KR5.out.setOther (p := ⟨bb, 0, none⟩) hbbr (.int .i64 (N : Int))).setOther (p := ⟨bb, 1, none⟩) hbbr (.int .i64 r)).setOther (p := ⟨bb, 2, none⟩) hbbr (.int .i64 d)).setOther (p := ⟨bb, 3, none⟩) hbbr (.int .i64 sl)).setOther (p := ⟨bb, 4, none⟩) hbbr (.string xv))
        have FT := Lib.hid (((((F5.out.setCell (p := ⟨bb, 0, none⟩) (.inl rfl) (.int .i64 (N : Int))).setCell (p := ⟨bb, 1, none⟩) (.inl rfl) (.int .i64 r)).setCell (p := ⟨bb, 2, none⟩) (.inl rfl) (.int .i64 d)).setCell (p := ⟨bb, 3, none⟩) (.inl rfl) (.int .i64 sl)).setCell (p := ⟨bb, 4, none⟩) (.inl rfl) (.string xv))
        cases fd with
        | false =>
          have hno : highL Q s (L.take i) = none := by
            have := FD.out
            cases hh : highL Q s (L.take i) with
            | none => rfl
            | some y => rw [hh] at this; cases this
          have E : Hid (hStep Q s (highL Q s (L.take i)) ⟨N, r, d, sl, xv⟩ = some ⟨N, r, d, sl, xv⟩) := by
            rw [Hid, hno]; unfold hStep; rw [PK.out]; rfl
          clear hno
          go_wp2_with fail
          go_roundg (L.length - (i + 1))
          case measure => omega
          case rel => exact ⟨i + 1, by omega, rfl, by go_num, by rw [HS.out, E.out]; rfl, by rw [HS.out, E.out]; exact KT.out, KRT.out, FT.out⟩
        | true =>
          have hso : highL Q s (L.take i) = some ⟨bnd, bbr, bd, bsl, bv⟩ := by
            have h1 := FD.out
            have h2 := BE.out
            cases hh : highL Q s (L.take i) with
            | none => rw [hh] at h1; cases h1
            | some y => rw [hh] at h2; rw [← h2]; rfl
          obtain ⟨o, ho⟩ : ∃ o, ordB (r, d) (bbr, bd) = o := ⟨_, rfl⟩
          have E0 : Hid (hStep Q s (highL Q s (L.take i)) ⟨N, r, d, sl, xv⟩ = if o > 0 ∨ o = 0 ∧ (N : Int) < bnd then some ⟨N, r, d, sl, xv⟩ else highL Q s (L.take i)) := by
            rw [Hid, hso]; unfold hStep; rw [PK.out, if_pos rfl]; simp only [ho]
          rw [ho]
          clear hso ho
          cases ho1 : decide (o > 0) with
          | true =>
            have E : Hid (hStep Q s (highL Q s (L.take i)) ⟨N, r, d, sl, xv⟩ = some ⟨N, r, d, sl, xv⟩) := by rw [Hid, E0.out, if_pos (.inl (of_decide_eq_true ho1))]
            go_wp2_with fail
            go_roundg (L.length - (i + 1))
            case measure => omega
            case rel => exact ⟨i + 1, by omega, rfl, by go_num, by rw [HS.out, E.out]; rfl, by rw [HS.out, E.out]; exact KT.out, KRT.out, FT.out⟩
          | false =>
            cases ho2 : (o == 0) with
            | false =>
              have E : Hid (hStep Q s (highL Q s (L.take i)) ⟨N, r, d, sl, xv⟩ = highL Q s (L.take i)) := by
                rw [Hid, E0.out, if_neg]
                rintro (h | h)
                · exact of_decide_eq_false ho1 h
                · rw [h.1] at ho2; cases ho2
              go_wp2_with fail
              go_roundg (L.length - (i + 1))
              case measure => omega
              case rel => exact ⟨i + 1, by omega, rfl, by go_num, by rw [HS.out, E.out, FD.out], by rw [HS.out, E.out, BE.out]; exact KB5.out, KR5.out, F5.out⟩
            | true =>
              have ho0 : Hid (o = 0) := by simpa [Hid] using ho2
              cases ho3 : decide ((N : Int) < bnd) with
              | true =>
                have E : Hid (hStep Q s (highL Q s (L.take i)) ⟨N, r, d, sl, xv⟩ = some ⟨N, r, d, sl, xv⟩) := by rw [Hid, E0.out, if_pos (.inr ⟨ho0.out, of_decide_eq_true ho3⟩)]
                go_wp2_with fail
                go_roundg (L.length - (i + 1))
                case measure => omega
                case rel => exact ⟨i + 1, by omega, rfl, by go_num, by rw [HS.out, E.out]; rfl, by rw [HS.out, E.out]; exact KT.out, KRT.out, FT.out⟩
              | false =>
                have E : Hid (hStep Q s (highL Q s (L.take i)) ⟨N, r, d, sl, xv⟩ = highL Q s (L.take i)) := by
                  rw [Hid, E0.out, if_neg]
                  rintro (h | h)
                  · exact of_decide_eq_false ho1 h
                  · exact of_decide_eq_false ho3 h.2
                go_wp2_with fail
                go_roundg (L.length - (i + 1))
                case measure => omega
                case rel => exact ⟨i + 1, by omega, rfl, by go_num, by rw [HS.out, E.out, FD.out], by rw [HS.out, E.out, BE.out]; exact KB5.out, KR5.out, F5.out⟩
end Go.Proofs.YthkdmpalhdifbaaGreatDoor
