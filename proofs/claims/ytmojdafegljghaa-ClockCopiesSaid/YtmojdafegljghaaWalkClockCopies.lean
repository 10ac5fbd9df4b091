/- The walk of skaldlaw18.ClockCopies: it returns true, and writes nothing that was there. -/
import Derived.Test.YtmojdafegljghaaClockO
import Derived.Deep.RegionHeld3
import Derived.OpenShut
set_option linter.unusedVariables false
set_option linter.unusedSimpArgs false
namespace Go.Proofs.Ytmojdafegljghaa.clockCopies
open Go.RowKit Go.Shelf
section
variable {P : Program} {ops : Array Oper} {Q : Exit → Act → World → Prop} {md : Region.Mode} {S : World → Prop}
theorem held_yes {i : Nat} (d : Option Tmp) {oi : Oper} {v : Value} {fuel : Nat} {listed : Array Bool} {a : Act} {w : World} (hi : ops[i]? = some oi) (hd : oi.dst = d)
    (hs : Region.noSelect ops = true) (hf : Region.free md ops listed i = true) (hr : (Region.ready md ops listed).contains i = true)
    (hQ : ∀ c a w, Q (.panic c) (a.put d v) w → Q (.panic c) a w) (hg : Region.wanted oi (yielded ops a.tmps) = true)
    (hv : ∀ w, S w → (execOp a.eval oi).run P w = .ok (.value v) w) (hS : S w)
    (h : wpAnyH P md ops Q S fuel (listed.setIfInBounds i true) (a.put d v) w) : wpAnyH P md ops Q S (fuel + 1) listed a w := by
  subst hd
  exact wpAnyH_take hi hs hf hr hQ (Or.inl ⟨hg, hv⟩) hS h
theorem held_no {i : Nat} (d : Option Tmp) {oi : Oper} {fuel : Nat} {listed : Array Bool} {a : Act} {w : World} (hi : ops[i]? = some oi) (hd : oi.dst = d)
    (hs : Region.noSelect ops = true) (hf : Region.free md ops listed i = true) (hr : (Region.ready md ops listed).contains i = true)
    (hQ : ∀ c a w, Q (.panic c) (a.put d undef) w → Q (.panic c) a w) (hg : Region.wanted oi (yielded ops a.tmps) = false) (hS : S w)
    (h : wpAnyH P md ops Q S fuel (listed.setIfInBounds i true) (a.put d undef) w) : wpAnyH P md ops Q S (fuel + 1) listed a w := by
  subst hd
  exact wpAnyH_take hi hs hf hr hQ (Or.inr ⟨hg, rfl⟩) hS h
theorem wanted_t {ops : Array Oper} {tmps : Array Value} {o : Oper} {j d : Nat} (hg : o.guard = some (j, true)) (hd : ((ops[j]?).bind (·.dst)) = some d) (ht : tmps[d]? = some (.bool false)) : Region.wanted o (yielded ops tmps) = false := by
  unfold Region.wanted yielded
  simp [hg, hd, ht]
theorem wanted_f {ops : Array Oper} {tmps : Array Value} {o : Oper} {j d : Nat} (hg : o.guard = some (j, false)) (hd : ((ops[j]?).bind (·.dst)) = some d) (ht : tmps[d]? = some (.bool true)) : Region.wanted o (yielded ops tmps) = false := by
  unfold Region.wanted yielded
  simp [hg, hd, ht]
end

theorem bsz {B : Nat} {a b : World} (h : Below B a b) (hB : B = a.heap.size := by rfl) : B ≤ b.heap.size := by subst hB; exact h.size
set_option maxRecDepth 100000 in
set_option maxHeartbeats 12000000 in
theorem walk (v0 : Value) (L : List (Int × Int × Int)) (v1 : Value) (K : List (Int × Int × Int)) (w : World) (hL : StepsIn w v0 L) (hK : StepsIn w v1 K) :
    Calls Try.prog 9 #[v0, v1] w fun e w' => e = .returned (.bool true) ∧ Below w.heap.size w w' := by
  have HL := Lib.hid hL
  obtain ⟨A, cap, rfl, hcap, hmax, _⟩ := hL
  obtain ⟨A1, cap1, rfl, hcap1, hmax1, hin, hc⟩ := hK
  have HC := Lib.hid hc
  have HIN := Lib.hid hin
  have HCM : Hid (L.length ≤ cap ∧ cap ≤ maxLen) := ⟨hcap, hmax⟩
  have HCM1 : Hid (K.length ≤ cap1 ∧ cap1 ≤ maxLen) := ⟨hcap1, hmax1⟩
  clear hcap hmax hcap1 hmax1 hin hc
  go_enter Try.func9, Try.ntmps9
  by_cases hlen : 60 < L.length
  · go_wp2_with fail
    refine (works_any _).mono ?_
    rintro e w4 ⟨rfl, hb4⟩
    go_wp2_with fail
    go_ret
    exact ⟨rfl, hb4⟩
  by_cases hlen1 : 60 < K.length
  · go_wp2_with fail
    refine (works_any _).mono ?_
    rintro e w4 ⟨rfl, hb4⟩
    go_wp2_with fail
    go_ret
    exact ⟨rfl, hb4⟩
  · go_wp2_with fail
    refine (played_any _ L _ HL.out (by omega)).mono ?_
    rintro e wt ⟨p, m, rfl, tt, hn0, hM0, hp, hm, bt⟩
    have hL60 : L.length ≤ 60 := by omega
    have hK60 : K.length ≤ 60 := by omega
    have hPN : ∃ st, st = playS L := ⟨_, rfl⟩
    obtain ⟨⟨now0, M0⟩, hst⟩ := hPN
    have HST := Lib.hid hst
    rw [← hst] at tt hn0 hM0
    simp only at tt hn0 hM0
    clear hst
    have hlo := tt.good.lo
    have htt := tt.lt
    go_wp2_with fail
    refine (copy_S p m now0 M0 _ tt).mono ?_
    rintro e wx ⟨p1, m1, rfl, tx, hp1, hm1, bx⟩
    have tt1 := tt.below bx
    have htx := tx.lt
    go_wp2_with fail
    refine (copy_S p m now0 M0 _ tt1).mono ?_
    rintro e wy ⟨p2, m2, rfl, ty, hp2, hm2, byy⟩
    have T0 := Lib.hid (tt1.below byy)
    have X0 := Lib.hid (tx.below byy)
    have Y0 := Lib.hid ty
    have bW := bchain (bchain bt bx) byy
    have hsb := bt.size
    obtain ⟨s1, hs1⟩ : ∃ s, s = wt.heap.size := ⟨_, rfl⟩
    obtain ⟨s2, hs2⟩ : ∃ s, s = wx.heap.size := ⟨_, rfl⟩
    rw [← hs1] at htt hp1 hm1 hsb
    rw [← hs2] at htx hp2 hm2
    clear tt tt1 tx ty bt bx byy hs1 hs2
    go_wp2_with fail
    go_loopw [8] (fun c wr => ∃ (i : Nat) (M : List (Int × Int)), i ≤ K.length ∧ c = .int .i64 i ∧ TS wr p m now0 M0 ∧ TS wr p1 m1 (now0 + i) M ∧ TS wr p2 m2 (now0 + i) M ∧ M.length ≤ 60 + i ∧ Below w.heap.size w wr) (fun c _ => K.length - (intOf c).toNat)
    case atStart => exact ⟨0, M0, by omega, rfl, T0.out, by simpa using X0.out, by simpa using Y0.out, by omega, bW⟩
    case round =>
      obtain ⟨i, M, hi, rfl, ht0, ht1, ht2, hM, hB⟩ := hrel
      have T := Lib.hid ht0
      have X := Lib.hid ht1
      have Y := Lib.hid ht2
      have hltt := ht0.lt
      have hltp := ht1.lt
      have hltq := ht2.lt
      clear ht0 ht1 ht2
      by_cases hlt : i < K.length
      · obtain ⟨b, off, rfl, hb, hcells⟩ := HC.out (by omega)
        obtain ⟨⟨x, y, z⟩, hs⟩ : ∃ s, K[i]? = some s := ⟨_, List.getElem?_eq_getElem hlt⟩
        obtain ⟨iy, iz⟩ := (HIN.out _ (List.mem_of_getElem? hs)).2
        obtain ⟨q0, q1, q2⟩ := hcells i x y z hs
        have d0 := bcell hB q0
        have d1 := bcell hB q1
        have d2 := bcell hB q2
        have HIY := Lib.hid iy
        clear q0 q1 q2 hs hcells iy iz
        go_wp2_with fail
        have TA := Lib.hid (T.out.below (((Below.refl _ wr).alloc (Nat.le_refl _) (.cells #[.int .i64 x, .int .i64 y, .int .i64 z] 37))))
        have XA := Lib.hid (X.out.below (((Below.refl _ wr).alloc (Nat.le_refl _) (.cells #[.int .i64 x, .int .i64 y, .int .i64 z] 37))))
        have YA := Lib.hid (Y.out.below (((Below.refl _ wr).alloc (Nat.le_refl _) (.cells #[.int .i64 x, .int .i64 y, .int .i64 z] 37))))
        have BA := hB.alloc hB.size (.cells #[.int .i64 x, .int .i64 y, .int .i64 z] 37)
        have KA : Hid (Blk (wr.alloc (.cells #[.int .i64 x, .int .i64 y, .int .i64 z] 37)) wr.heap.size 37 #[.int .i64 x, .int .i64 y, .int .i64 z]) := Blk.new _ _ _
        generalize wr.alloc (.cells #[.int .i64 x, .int .i64 y, .int .i64 z] 37) = W1 at *
        obtain ⟨b8, hb8⟩ : ∃ b8, b8 = wr.heap.size := ⟨_, rfl⟩
        rw [← hb8] at KA hltt hltp hltq ⊢
        clear hb8 T X Y
        have k0 := KA.out.cell (i := 0) rfl
        have k1 := KA.out.cell (i := 1) rfl
        have k2 := KA.out.cell (i := 2) rfl
        have hw8 := KA.out.lt
        have tok1 : True := trivial
        have tok2 : True := trivial
        have tok3 : True := trivial
        have hol := out_len (now0 + i) (setS (now0 + i) y z M)
        by_cases x1 : x = 1
        · have x1' : ((x : Int) == 1) = true := by simpa using x1
          clear x1
          go_region_held3 (fun W => W.cell? ⟨b8, 0, none⟩ = some (.int .i64 x) ∧ W.cell? ⟨b8, 1, none⟩ = some (.int .i64 y) ∧ W.cell? ⟨b8, 2, none⟩ = some (.int .i64 z))
            (first | exact ⟨by assumption, by assumption, by assumption⟩ | go_keep)
            (first
              | (go_at_call 12; have _t := tok1; refine (set_S p1 m1 y z (now0 + i) M _ XA.out.drew HIY.out (by omega)).mono ?_; rintro e w3 ⟨rfl, x3, f3⟩; clear tok1; have z3 : W1.heap.size ≤ w3.heap.size := f3.size; have q30 := f3.cell (p := ⟨b8, 0, none⟩) (fun e => by have e : b8 = m1 := e; omega) k0; have q31 := f3.cell (p := ⟨b8, 1, none⟩) (fun e => by have e : b8 = m1 := e; omega) k1; have q32 := f3.cell (p := ⟨b8, 2, none⟩) (fun e => by have e : b8 = m1 := e; omega) k2; have y3 := YA.out.drew.fr f3 (fun e => by have e : p2 = m1 := e; omega) (fun e => by have e : m2 = m1 := e; omega))
              | (go_at_call 12; refine (set_S p2 m2 y z (now0 + i) M _ y3 HIY.out (by omega)).mono ?_; rintro e w4 ⟨rfl, y4, f4⟩; have z4 := f4.size; have q40 := f4.cell (p := ⟨b8, 0, none⟩) (fun e => by have e : b8 = m2 := e; omega) q30; have q41 := f4.cell (p := ⟨b8, 1, none⟩) (fun e => by have e : b8 = m2 := e; omega) q31; have q42 := f4.cell (p := ⟨b8, 2, none⟩) (fun e => by have e : b8 = m2 := e; omega) q32; have x4 := x3.fr f4 (fun e => by have e : p1 = m2 := e; omega) (fun e => by have e : m1 = m2 := e; omega))
              | (go_at_call 17; have _t := tok2; refine (stop_S p1 m1 y (now0 + i) (setS (now0 + i) y z M) _ x4 HIY.out).mono ?_; rintro e w5 ⟨rfl, x5, f5⟩; clear tok2; have z5 := f5.size; have q50 := f5.cell (p := ⟨b8, 0, none⟩) (fun e => by have e : b8 = m1 := e; omega) q40; have q51 := f5.cell (p := ⟨b8, 1, none⟩) (fun e => by have e : b8 = m1 := e; omega) q41; have q52 := f5.cell (p := ⟨b8, 2, none⟩) (fun e => by have e : b8 = m1 := e; omega) q42; have y5 := y4.fr f5 (fun e => by have e : p2 = m1 := e; omega) (fun e => by have e : m2 = m1 := e; omega))
              | (go_at_call 17; refine (stop_S p2 m2 y (now0 + i) (setS (now0 + i) y z M) _ y5 HIY.out).mono ?_; rintro e w6 ⟨rfl, y6, f6⟩; have z6 := f6.size; have q60 := f6.cell (p := ⟨b8, 0, none⟩) (fun e => by have e : b8 = m2 := e; omega) q50; have q61 := f6.cell (p := ⟨b8, 1, none⟩) (fun e => by have e : b8 = m2 := e; omega) q51; have q62 := f6.cell (p := ⟨b8, 2, none⟩) (fun e => by have e : b8 = m2 := e; omega) q52; have x6 := x5.fr f6 (fun e => by have e : p1 = m2 := e; omega) (fun e => by have e : m1 = m2 := e; omega))
              | (go_at_call 13; have _t := tok3; refine (tick_S p1 m1 (now0 + i) (del y (setS (now0 + i) y z M)) _ x6 (by omega)).mono ?_; rintro e w7 ⟨v7, rfl, r7, x7, f7⟩; clear tok3; have z7 := f7.size; have q70 := f7.cell (p := ⟨b8, 0, none⟩) (fun e => by have e : b8 = p1 ∨ b8 = m1 := e; omega) q60; have q71 := f7.cell (p := ⟨b8, 1, none⟩) (fun e => by have e : b8 = p1 ∨ b8 = m1 := e; omega) q61; have q72 := f7.cell (p := ⟨b8, 2, none⟩) (fun e => by have e : b8 = p1 ∨ b8 = m1 := e; omega) q62; have y7 := y6.fr f7 (fun e => by rcases e with e | e <;> omega) (fun e => by rcases e with e | e <;> omega))
              | (go_at_call 13; refine (tick_S p2 m2 (now0 + i) (del y (setS (now0 + i) y z M)) _ y7 (by omega)).mono ?_; rintro e w8 ⟨v8, rfl, r8, y8, f8⟩; have z8 := f8.size; have q80 := f8.cell (p := ⟨b8, 0, none⟩) (fun e => by have e : b8 = p2 ∨ b8 = m2 := e; omega) q70; have q81 := f8.cell (p := ⟨b8, 1, none⟩) (fun e => by have e : b8 = p2 ∨ b8 = m2 := e; omega) q71; have q82 := f8.cell (p := ⟨b8, 2, none⟩) (fun e => by have e : b8 = p2 ∨ b8 = m2 := e; omega) q72; have x8 := x7.fr f8 (fun e => by rcases e with e | e <;> omega) (fun e => by rcases e with e | e <;> omega); have r7' := r7.fr f8 (fun j e => by rcases e with e | e <;> omega))
              | (go_at_call 20; refine (same_any _ _ _ _ _ _ _ r7' r8 (by have h1 := out_len (now0 + i) (del y (setS (now0 + i) y z M)); have h2 := len_setS_le (now0 + i) y z M; have h3 := len_del_le y (setS (now0 + i) y z M); omega)).mono ?_; rintro e w9 ⟨he, g9⟩; rw [decide_eq_true rfl] at he; subst he; have f9 : Fr S0 w8 w9 := Fr.of_below g9; have q90 := f9.cell (p := ⟨b8, 0, none⟩) (fun e => by exact e.elim) q80; have q91 := f9.cell (p := ⟨b8, 1, none⟩) (fun e => by exact e.elim) q81; have q92 := f9.cell (p := ⟨b8, 2, none⟩) (fun e => by exact e.elim) q82; have x9 := x8.fr f9 (fun h => h) (fun h => h); have y9 := y8.fr f9 (fun h => h) (fun h => h)))
          have F : Fr (fun j => S2 p1 m1 j ∨ S2 p2 m2 j) W1 w9 := (((((((Fr.of_drew (f3.mono (fun j e => .inl (.inr e))))).trans (f4.mono (fun j e => .inr (.inr e)))).trans (f5.mono (fun j e => .inl (.inr e)))).trans (f6.mono (fun j e => .inr (.inr e)))).trans (f7.mono (fun j e => e.elim (fun e => .inl (.inl e)) (fun e => .inl (.inr e))))).trans (f8.mono (fun j e => e.elim (fun e => .inr (.inl e)) (fun e => .inr (.inr e))))).trans (f9.mono (fun j e => e.elim))
          have t9 := TA.out.fr F (fun e => by rcases e with (e | e) | (e | e) <;> omega) (fun e => by rcases e with (e | e) | (e | e) <;> omega)
          have BF : Below w.heap.size w w9 := Fr.upB BA F (fun j e => by rcases e with (e | e) | (e | e) <;> omega)
          go_wp2_with fail
          go_roundw
          case rel =>
            have hs1 := len_setS_le (now0 + i) y z M
            have hs2 := len_restT_le (now0 + i) (del y (setS (now0 + i) y z M))
            have hs3 := len_del_le y (setS (now0 + i) y z M)
            have hnow : now0 + (i : Int) + 1 = now0 + ((i + 1 : Nat) : Int) := by omega
            rw [hnow] at x9 y9
            exact ⟨i + 1, _, by omega, by go_num, t9, x9, y9, by omega, BF⟩
          case measure => simp [intOf]; omega
        · have x1' : ((x : Int) == 1) = false := by simpa using x1
          clear x1
          refine wp_region_held_drew (S := (fun W => W.cell? ⟨b8, 0, none⟩ = some (.int .i64 x) ∧ W.cell? ⟨b8, 1, none⟩ = some (.int .i64 y) ∧ W.cell? ⟨b8, 2, none⟩ = some (.int .i64 z))) (by kernel_rfl) ?_ (fun hHeld => ?_)
          · exact ⟨k0, k1, k2⟩
          try dsimp only at hHeld
          refine held_yes (i := 0) (some 42) (v := ?_) rfl rfl (by kernel_rfl) (by kernel_rfl) (by kernel_rfl) (fun _ _ _ h => h) (by rfl) ?_ hHeld ?_
          rotate_left
          · (intro w hSw; (try dsimp only at hSw); go_simp; all_goals with_reducible rfl)
          try simp only [Act.put, List.setIfInBounds_toArray, List.set_cons_zero, List.set_cons_succ]
          refine held_yes (i := 1) (some 43) (v := ?_) rfl rfl (by kernel_rfl) (by kernel_rfl) (by kernel_rfl) (fun _ _ _ h => h) (by rfl) ?_ hHeld ?_
          rotate_left
          · (intro w hSw; (try dsimp only at hSw); go_simp; all_goals with_reducible rfl)
          try simp only [Act.put, List.setIfInBounds_toArray, List.set_cons_zero, List.set_cons_succ]
          refine held_yes (i := 2) (some 44) (v := ?_) rfl rfl (by kernel_rfl) (by kernel_rfl) (by kernel_rfl) (fun _ _ _ h => h) (by rfl) ?_ hHeld ?_
          rotate_left
          · (intro w hSw; (try dsimp only at hSw); go_simp; all_goals with_reducible rfl)
          try simp only [Act.put, List.setIfInBounds_toArray, List.set_cons_zero, List.set_cons_succ]
          refine held_yes (i := 3) (some 45) (v := ?_) rfl rfl (by kernel_rfl) (by kernel_rfl) (by kernel_rfl) (fun _ _ _ h => h) (by rfl) ?_ hHeld ?_
          rotate_left
          · (intro w hSw; (try dsimp only at hSw); go_simp; all_goals with_reducible rfl)
          try simp only [Act.put, List.setIfInBounds_toArray, List.set_cons_zero, List.set_cons_succ]
          refine held_yes (i := 4) (some 46) (v := ?_) rfl rfl (by kernel_rfl) (by kernel_rfl) (by kernel_rfl) (fun _ _ _ h => h) (by rfl) ?_ hHeld ?_
          rotate_left
          · (intro w hSw; (try dsimp only at hSw); go_simp; all_goals with_reducible rfl)
          try simp only [Act.put, List.setIfInBounds_toArray, List.set_cons_zero, List.set_cons_succ]
          refine held_yes (i := 6) (some 48) (v := ?_) rfl rfl (by kernel_rfl) (by kernel_rfl) (by kernel_rfl) (fun _ _ _ h => h) (by rfl) ?_ hHeld ?_
          rotate_left
          · (intro w hSw; (try dsimp only at hSw); go_simp; all_goals with_reducible rfl)
          try simp only [Act.put, List.setIfInBounds_toArray, List.set_cons_zero, List.set_cons_succ]
          refine held_yes (i := 7) (some 49) (v := ?_) rfl rfl (by kernel_rfl) (by kernel_rfl) (by kernel_rfl) (fun _ _ _ h => h) (by rfl) ?_ hHeld ?_
          rotate_left
          · (intro w hSw; (try dsimp only at hSw); go_simp; all_goals with_reducible rfl)
          try simp only [Act.put, List.setIfInBounds_toArray, List.set_cons_zero, List.set_cons_succ]
          refine held_yes (i := 8) (some 50) (v := ?_) rfl rfl (by kernel_rfl) (by kernel_rfl) (by kernel_rfl) (fun _ _ _ h => h) (by rfl) ?_ hHeld ?_
          rotate_left
          · (intro w hSw; (try dsimp only at hSw); go_simp; all_goals with_reducible rfl)
          try simp only [Act.put, List.setIfInBounds_toArray, List.set_cons_zero, List.set_cons_succ]
          refine held_yes (i := 9) (some 51) (v := ?_) rfl rfl (by kernel_rfl) (by kernel_rfl) (by kernel_rfl) (fun _ _ _ h => h) (by rfl) ?_ hHeld ?_
          rotate_left
          · (intro w hSw; (try dsimp only at hSw); go_simp; all_goals with_reducible rfl)
          try simp only [Act.put, List.setIfInBounds_toArray, List.set_cons_zero, List.set_cons_succ]
          refine held_yes (i := 10) (some 52) (v := ?_) rfl rfl (by kernel_rfl) (by kernel_rfl) (by kernel_rfl) (fun _ _ _ h => h) (by rfl) ?_ hHeld ?_
          rotate_left
          · (intro w hSw; (try dsimp only at hSw); go_simp; all_goals with_reducible rfl)
          try simp only [Act.put, List.setIfInBounds_toArray, List.set_cons_zero, List.set_cons_succ]
          refine wpAnyH_ready (rs := [5]) (by kernel_rfl) (by simp) ?_
          refine AllReadyH.cons rfl (fun K' hK' => ?_) AllReadyH.nil
          go_simp
          refine (set_S p1 m1 y z (now0 + i) M _ XA.out.drew HIY.out (by omega)).mono ?_
          rintro e w3 ⟨rfl, x3, f3⟩
          have z3 : W1.heap.size ≤ w3.heap.size := f3.size
          have q30 := f3.cell (p := ⟨b8, 0, none⟩) (fun e => by have e : b8 = m1 := e; omega) k0
          have q31 := f3.cell (p := ⟨b8, 1, none⟩) (fun e => by have e : b8 = m1 := e; omega) k1
          have q32 := f3.cell (p := ⟨b8, 2, none⟩) (fun e => by have e : b8 = m1 := e; omega) k2
          have y3 := YA.out.drew.fr f3 (fun e => by have e : p2 = m1 := e; omega) (fun e => by have e : m2 = m1 := e; omega)
          go_wp2_with fail
          refine hK'.out _ _ ?_ (fun hHeld => ?_)
          · exact ⟨q30, q31, q32⟩
          clear hK' K'
          try dsimp only at hHeld
          try simp only [Act.put, List.setIfInBounds_toArray, List.set_cons_zero, List.set_cons_succ]
          refine wpAnyH_ready (rs := [11]) (by kernel_rfl) (by simp) ?_
          refine AllReadyH.cons rfl (fun K' hK' => ?_) AllReadyH.nil
          go_simp
          refine (set_S p2 m2 y z (now0 + i) M _ y3 HIY.out (by omega)).mono ?_
          rintro e w4 ⟨rfl, y4, f4⟩
          have z4 := f4.size
          have q40 := f4.cell (p := ⟨b8, 0, none⟩) (fun e => by have e : b8 = m2 := e; omega) q30
          have q41 := f4.cell (p := ⟨b8, 1, none⟩) (fun e => by have e : b8 = m2 := e; omega) q31
          have q42 := f4.cell (p := ⟨b8, 2, none⟩) (fun e => by have e : b8 = m2 := e; omega) q32
          have x4 := x3.fr f4 (fun e => by have e : p1 = m2 := e; omega) (fun e => by have e : m1 = m2 := e; omega)
          go_wp2_with fail
          refine hK'.out _ _ ?_ (fun hHeld => ?_)
          · exact ⟨q40, q41, q42⟩
          clear hK' K'
          try dsimp only at hHeld
          try simp only [Act.put, List.setIfInBounds_toArray, List.set_cons_zero, List.set_cons_succ]
          refine held_yes (i := 12) (some 54) (v := ?_) rfl rfl (by kernel_rfl) (by kernel_rfl) (by kernel_rfl) (fun _ _ _ h => h) (by rfl) ?_ hHeld ?_
          rotate_left
          · (intro w hSw; (try dsimp only at hSw); go_simp; all_goals with_reducible rfl)
          try simp only [Act.put, List.setIfInBounds_toArray, List.set_cons_zero, List.set_cons_succ]
          refine held_yes (i := 13) (some 55) (v := ?_) rfl rfl (by kernel_rfl) (by kernel_rfl) (by kernel_rfl) (fun _ _ _ h => h) (by rfl) ?_ hHeld ?_
          rotate_left
          · (intro w hSw; (try dsimp only at hSw); go_simp; all_goals with_reducible rfl)
          try simp only [Act.put, List.setIfInBounds_toArray, List.set_cons_zero, List.set_cons_succ]
          refine held_yes (i := 14) (some 56) (v := ?_) rfl rfl (by kernel_rfl) (by kernel_rfl) (by kernel_rfl) (fun _ _ _ h => h) (by rfl) ?_ hHeld ?_
          rotate_left
          · (intro w hSw; (try dsimp only at hSw); go_simp; all_goals with_reducible rfl)
          try simp only [Act.put, List.setIfInBounds_toArray, List.set_cons_zero, List.set_cons_succ]
          refine held_yes (i := 15) (some 57) (v := ?_) rfl rfl (by kernel_rfl) (by kernel_rfl) (by kernel_rfl) (fun _ _ _ h => h) (by rfl) ?_ hHeld ?_
          rotate_left
          · (intro w hSw; (try dsimp only at hSw); go_simp; all_goals with_reducible rfl)
          try simp only [Act.put, List.setIfInBounds_toArray, List.set_cons_zero, List.set_cons_succ]
          refine held_yes (i := 16) (some 58) (v := ?_) rfl rfl (by kernel_rfl) (by kernel_rfl) (by kernel_rfl) (fun _ _ _ h => h) (by rfl) ?_ hHeld ?_
          rotate_left
          · (intro w hSw; (try dsimp only at hSw); go_simp; all_goals with_reducible rfl)
          try simp only [Act.put, List.setIfInBounds_toArray, List.set_cons_zero, List.set_cons_succ]
          refine held_yes (i := 17) (some 59) (v := ?_) rfl rfl (by kernel_rfl) (by kernel_rfl) (by kernel_rfl) (fun _ _ _ h => h) (by rfl) ?_ hHeld ?_
          rotate_left
          · (intro w hSw; (try dsimp only at hSw); go_simp; all_goals with_reducible rfl)
          try simp only [Act.put, List.setIfInBounds_toArray, List.set_cons_zero, List.set_cons_succ]
          refine held_no (i := 18) (some 60) rfl rfl (by kernel_rfl) (by kernel_rfl) (by kernel_rfl) (fun _ _ _ h => h) (wanted_t rfl rfl rfl) hHeld ?_
          try simp only [Act.put, List.setIfInBounds_toArray, List.set_cons_zero, List.set_cons_succ]
          refine held_no (i := 19) (some 61) rfl rfl (by kernel_rfl) (by kernel_rfl) (by kernel_rfl) (fun _ _ _ h => h) (wanted_t rfl rfl rfl) hHeld ?_
          try simp only [Act.put, List.setIfInBounds_toArray, List.set_cons_zero, List.set_cons_succ]
          refine held_no (i := 20) (some 62) rfl rfl (by kernel_rfl) (by kernel_rfl) (by kernel_rfl) (fun _ _ _ h => h) (wanted_t rfl rfl rfl) hHeld ?_
          try simp only [Act.put, List.setIfInBounds_toArray, List.set_cons_zero, List.set_cons_succ]
          refine held_no (i := 21) (some 63) rfl rfl (by kernel_rfl) (by kernel_rfl) (by kernel_rfl) (fun _ _ _ h => h) (wanted_t rfl rfl rfl) hHeld ?_
          try simp only [Act.put, List.setIfInBounds_toArray, List.set_cons_zero, List.set_cons_succ]
          refine held_no (i := 22) (some 64) rfl rfl (by kernel_rfl) (by kernel_rfl) (by kernel_rfl) (fun _ _ _ h => h) (wanted_t rfl rfl rfl) hHeld ?_
          try simp only [Act.put, List.setIfInBounds_toArray, List.set_cons_zero, List.set_cons_succ]
          refine held_no (i := 23) (some 65) rfl rfl (by kernel_rfl) (by kernel_rfl) (by kernel_rfl) (fun _ _ _ h => h) (wanted_t rfl rfl rfl) hHeld ?_
          try simp only [Act.put, List.setIfInBounds_toArray, List.set_cons_zero, List.set_cons_succ]
          refine held_no (i := 24) (some 66) rfl rfl (by kernel_rfl) (by kernel_rfl) (by kernel_rfl) (fun _ _ _ h => h) (wanted_t rfl rfl rfl) hHeld ?_
          try simp only [Act.put, List.setIfInBounds_toArray, List.set_cons_zero, List.set_cons_succ]
          refine held_no (i := 25) (some 67) rfl rfl (by kernel_rfl) (by kernel_rfl) (by kernel_rfl) (fun _ _ _ h => h) (wanted_t rfl rfl rfl) hHeld ?_
          try simp only [Act.put, List.setIfInBounds_toArray, List.set_cons_zero, List.set_cons_succ]
          refine held_no (i := 26) (some 68) rfl rfl (by kernel_rfl) (by kernel_rfl) (by kernel_rfl) (fun _ _ _ h => h) (wanted_t rfl rfl rfl) hHeld ?_
          try simp only [Act.put, List.setIfInBounds_toArray, List.set_cons_zero, List.set_cons_succ]
          refine held_yes (i := 27) (some 69) (v := ?_) rfl rfl (by kernel_rfl) (by kernel_rfl) (by kernel_rfl) (fun _ _ _ h => h) (by rfl) ?_ hHeld ?_
          rotate_left
          · (intro w hSw; (try dsimp only at hSw); go_simp; all_goals with_reducible rfl)
          try simp only [Act.put, List.setIfInBounds_toArray, List.set_cons_zero, List.set_cons_succ]
          refine held_yes (i := 28) (some 70) (v := ?_) rfl rfl (by kernel_rfl) (by kernel_rfl) (by kernel_rfl) (fun _ _ _ h => h) (by rfl) ?_ hHeld ?_
          rotate_left
          · (intro w hSw; (try dsimp only at hSw); go_simp; all_goals with_reducible rfl)
          try simp only [Act.put, List.setIfInBounds_toArray, List.set_cons_zero, List.set_cons_succ]
          refine held_yes (i := 29) (some 71) (v := ?_) rfl rfl (by kernel_rfl) (by kernel_rfl) (by kernel_rfl) (fun _ _ _ h => h) (by rfl) ?_ hHeld ?_
          rotate_left
          · (intro w hSw; (try dsimp only at hSw); go_simp; all_goals with_reducible rfl)
          try simp only [Act.put, List.setIfInBounds_toArray, List.set_cons_zero, List.set_cons_succ]
          refine held_yes (i := 30) (some 72) (v := ?_) rfl rfl (by kernel_rfl) (by kernel_rfl) (by kernel_rfl) (fun _ _ _ h => h) (by rfl) ?_ hHeld ?_
          rotate_left
          · (intro w hSw; (try dsimp only at hSw); go_simp; all_goals with_reducible rfl)
          try simp only [Act.put, List.setIfInBounds_toArray, List.set_cons_zero, List.set_cons_succ]
          refine held_yes (i := 32) (some 74) (v := ?_) rfl rfl (by kernel_rfl) (by kernel_rfl) (by kernel_rfl) (fun _ _ _ h => h) (by rfl) ?_ hHeld ?_
          rotate_left
          · (intro w hSw; (try dsimp only at hSw); go_simp; all_goals with_reducible rfl)
          try simp only [Act.put, List.setIfInBounds_toArray, List.set_cons_zero, List.set_cons_succ]
          refine wpAnyH_ready (rs := [31]) (by kernel_rfl) (by simp) ?_
          refine AllReadyH.cons rfl (fun K' hK' => ?_) AllReadyH.nil
          go_simp
          refine (tick_S p1 m1 (now0 + i) (setS (now0 + i) y z M) _ x4 (by omega)).mono ?_
          rintro e w5 ⟨v5, rfl, r5, x5, f5⟩
          have z5 := f5.size
          have q50 := f5.cell (p := ⟨b8, 0, none⟩) (fun e => by have e : b8 = p1 ∨ b8 = m1 := e; omega) q40
          have q51 := f5.cell (p := ⟨b8, 1, none⟩) (fun e => by have e : b8 = p1 ∨ b8 = m1 := e; omega) q41
          have q52 := f5.cell (p := ⟨b8, 2, none⟩) (fun e => by have e : b8 = p1 ∨ b8 = m1 := e; omega) q42
          have y5 := y4.fr f5 (fun e => by rcases e with e | e <;> omega) (fun e => by rcases e with e | e <;> omega)
          go_wp2_with fail
          refine hK'.out _ _ ?_ (fun hHeld => ?_)
          · exact ⟨q50, q51, q52⟩
          clear hK' K'
          try dsimp only at hHeld
          try simp only [Act.put, List.setIfInBounds_toArray, List.set_cons_zero, List.set_cons_succ]
          refine wpAnyH_ready (rs := [33]) (by kernel_rfl) (by simp) ?_
          refine AllReadyH.cons rfl (fun K' hK' => ?_) AllReadyH.nil
          go_simp
          refine (tick_S p2 m2 (now0 + i) (setS (now0 + i) y z M) _ y5 (by omega)).mono ?_
          rintro e w6 ⟨v6, rfl, r6, y6, f6⟩
          have z6 := f6.size
          have q60 := f6.cell (p := ⟨b8, 0, none⟩) (fun e => by have e : b8 = p2 ∨ b8 = m2 := e; omega) q50
          have q61 := f6.cell (p := ⟨b8, 1, none⟩) (fun e => by have e : b8 = p2 ∨ b8 = m2 := e; omega) q51
          have q62 := f6.cell (p := ⟨b8, 2, none⟩) (fun e => by have e : b8 = p2 ∨ b8 = m2 := e; omega) q52
          have x6 := x5.fr f6 (fun e => by rcases e with e | e <;> omega) (fun e => by rcases e with e | e <;> omega)
          have r5' := r5.fr f6 (fun j e => by rcases e with e | e <;> omega)
          go_wp2_with fail
          refine hK'.out _ _ ?_ (fun hHeld => ?_)
          · exact ⟨q60, q61, q62⟩
          clear hK' K'
          try dsimp only at hHeld
          try simp only [Act.put, List.setIfInBounds_toArray, List.set_cons_zero, List.set_cons_succ]
          refine wpAnyH_ready (rs := [34]) (by kernel_rfl) (by simp) ?_
          refine AllReadyH.cons rfl (fun K' hK' => ?_) AllReadyH.nil
          go_simp
          refine (same_any _ _ _ _ _ _ _ r5' r6 (by have h1 := out_len (now0 + i) (setS (now0 + i) y z M); have h2 := len_setS_le (now0 + i) y z M; omega)).mono ?_
          rintro e w7 ⟨he, g7⟩
          rw [decide_eq_true rfl] at he
          subst he
          have f7 : Fr S0 w6 w7 := Fr.of_below g7
          have q70 := f7.cell (p := ⟨b8, 0, none⟩) (fun e => by exact e.elim) q60
          have q71 := f7.cell (p := ⟨b8, 1, none⟩) (fun e => by exact e.elim) q61
          have q72 := f7.cell (p := ⟨b8, 2, none⟩) (fun e => by exact e.elim) q62
          have x7 := x6.fr f7 (fun h => h) (fun h => h)
          have y7 := y6.fr f7 (fun h => h) (fun h => h)
          go_wp2_with fail
          refine hK'.out _ _ ?_ (fun hHeld => ?_)
          · exact ⟨q70, q71, q72⟩
          clear hK' K'
          try dsimp only at hHeld
          try simp only [Act.put, List.setIfInBounds_toArray, List.set_cons_zero, List.set_cons_succ]
          refine held_yes (i := 35) (some 77) (v := ?_) rfl rfl (by kernel_rfl) (by kernel_rfl) (by kernel_rfl) (fun _ _ _ h => h) (by rfl) ?_ hHeld ?_
          rotate_left
          · (intro w hSw; (try dsimp only at hSw); go_simp; all_goals with_reducible rfl)
          try simp only [Act.put, List.setIfInBounds_toArray, List.set_cons_zero, List.set_cons_succ]
          refine held_yes (i := 36) (some 78) (v := ?_) rfl rfl (by kernel_rfl) (by kernel_rfl) (by kernel_rfl) (fun _ _ _ h => h) (by rfl) ?_ hHeld ?_
          rotate_left
          · (intro w hSw; (try dsimp only at hSw); go_simp; all_goals with_reducible rfl)
          try simp only [Act.put, List.setIfInBounds_toArray, List.set_cons_zero, List.set_cons_succ]
          refine wpAnyH_done (by kernel_rfl) ?_ _
          have F : Fr (fun j => S2 p1 m1 j ∨ S2 p2 m2 j) W1 w7 := (((((Fr.of_drew (f3.mono (fun j e => .inl (.inr e))))).trans (f4.mono (fun j e => .inr (.inr e)))).trans (f5.mono (fun j e => e.elim (fun e => .inl (.inl e)) (fun e => .inl (.inr e))))).trans (f6.mono (fun j e => e.elim (fun e => .inr (.inl e)) (fun e => .inr (.inr e))))).trans (f7.mono (fun j e => e.elim))
          have t9 := TA.out.fr F (fun e => by rcases e with (e | e) | (e | e) <;> omega) (fun e => by rcases e with (e | e) | (e | e) <;> omega)
          have BF : Below w.heap.size w w7 := Fr.upB BA F (fun j e => by rcases e with (e | e) | (e | e) <;> omega)
          go_wp2_with fail
          go_roundw
          case rel =>
            have hs1 := len_setS_le (now0 + i) y z M
            have hs2 := len_restT_le (now0 + i) (setS (now0 + i) y z M)
            skip
            have hnow : now0 + (i : Int) + 1 = now0 + ((i + 1 : Nat) : Int) := by omega
            rw [hnow] at x7 y7
            exact ⟨i + 1, _, by omega, by go_num, t9, x7, y7, by omega, BF⟩
          case measure => simp [intOf]; omega
      · have e : i = K.length := by omega
        subst e
        obtain ⟨wo, rfl⟩ : ∃ wo : World, wo = wr := ⟨_, rfl⟩
        have hMM : M.length ≤ 120 := by omega
        go_wp2_with fail
        have hst := HST.out
        refine (played_any _ L _ (HL.out.below hB) (by omega)).mono ?_
        rintro e wu ⟨pu, mu, rfl, tu, hnu, hMu, hpu, hmu, bu⟩
        rw [← hst] at tu
        simp only at tu
        have Tu := Lib.hid (T.out.below bu)
        have Xu := Lib.hid (X.out.below bu)
        have Yu := Lib.hid (Y.out.below bu)
        have Uu := Lib.hid tu
        have Bu := Lib.hid (hB.trans (bu.mono hB.size))
        have hlo2 := T.out.good.lo
        have hhi2 : now0 ≤ 60 := by omega
        have hw2 : IntKind.i64.wrap (now0 + (K.length : Int)) = now0 + (K.length : Int) := IntWalk.i64_in _ (by omega)
        have HML := Lib.hid hMM
        have HM0 := Lib.hid hM0
        have i1 : True := trivial
        have i2 : True := trivial
        have i3 : True := trivial
        have sm1 : True := trivial
        have n1 : True := trivial
        have n2 : True := trivial
        have n3 : True := trivial
        clear hst tu bu hB hnu hMu hpu hmu T X Y hMM hM0
        go_wp2_with (first
          | (go_at_call 19; have _t := i1; refine (ids_S p1 m1 _ M _ Xu.out).mono ?_; rintro e y1 ⟨v1, rfl, r1, c1⟩; have T1 := Lib.hid (Tu.out.below c1); have X1 := Lib.hid (Xu.out.below c1); have Y1 := Lib.hid (Yu.out.below c1); have U1 := Lib.hid (Uu.out.below c1); have R1 := Lib.hid r1; have B1 := Lib.hid (Bu.out.trans (c1.mono (bsz Bu.out))); clear r1 c1 i1)
          | (go_at_call 19; have _t := i2; refine (ids_S p2 m2 _ M _ Y1.out).mono ?_; rintro e y2 ⟨v2, rfl, r2, c2⟩; have T2 := Lib.hid (T1.out.below c2); have X2 := Lib.hid (X1.out.below c2); have U2 := Lib.hid (U1.out.below c2); have R2 := Lib.hid r2; have Q2 := Lib.hid (R1.out.fr (Fr.of_below c2 : Fr S0 _ _) (fun i h => h.elim)); have B2 := Lib.hid (B1.out.trans (c2.mono (bsz B1.out))); clear r2 c2 i2)
          | (go_at_call 20; have _t := sm1; refine (same_any _ _ _ _ _ _ _ Q2.out R2.out (by have := HML.out; simp [keys]; omega)).mono ?_; rintro e y3 ⟨rfl, c3⟩; have T3 := Lib.hid (T2.out.below c3); have X3 := Lib.hid (X2.out.below c3); have U3 := Lib.hid (U2.out.below c3); have B3 := Lib.hid (B2.out.trans (c3.mono (bsz B2.out))); clear c3 sm1)
          | (go_at_call 19; have _t := i3; refine (ids_S p m _ M0 _ T3.out).mono ?_; rintro e y4 ⟨v4, rfl, r4, c4⟩; have T4 := Lib.hid (T3.out.below c4); have X4 := Lib.hid (X3.out.below c4); have U4 := Lib.hid (U3.out.below c4); have R4 := Lib.hid r4; have B4 := Lib.hid (B3.out.trans (c4.mono (bsz B3.out))); clear r4 c4 i3)
          | (go_at_call 19; refine (ids_S pu mu _ M0 _ U4.out).mono ?_; rintro e y5 ⟨v5, rfl, r5, c5⟩; have T5 := Lib.hid (T4.out.below c5); have X5 := Lib.hid (X4.out.below c5); have U5 := Lib.hid (U4.out.below c5); have R5 := Lib.hid r5; have Q5 := Lib.hid (R4.out.fr (Fr.of_below c5 : Fr S0 _ _) (fun i h => h.elim)); have B5 := Lib.hid (B4.out.trans (c5.mono (bsz B4.out))); clear r5 c5)
          | (go_at_call 20; refine (same_any _ _ _ _ _ _ _ Q5.out R5.out (by have := HM0.out; simp [keys]; omega)).mono ?_; rintro e y6 ⟨rfl, c6⟩; have T6 := Lib.hid (T5.out.below c6); have X6 := Lib.hid (X5.out.below c6); have U6 := Lib.hid (U5.out.below c6); have B6 := Lib.hid (B5.out.trans (c6.mono (bsz B5.out))); clear c6)
          | (go_at_call 15; have _t := n1; refine (now_any p m _ M0 _ T6.out.tab).mono ?_; rintro e w' ⟨rfl, rfl⟩; clear n1)
          | (go_at_call 15; have _t := n2; refine (now_any pu mu _ M0 _ U6.out.tab).mono ?_; rintro e w' ⟨rfl, rfl⟩; clear n2)
          | (go_at_call 15; have _t := n3; refine (now_any p1 m1 _ M _ X6.out.tab).mono ?_; rintro e w' ⟨rfl, rfl⟩; clear n3)
          | (go_at_call 15; refine (now_any p m _ M0 _ T6.out.tab).mono ?_; rintro e w' ⟨rfl, rfl⟩)
          | (go_at_call 10; refine (works_any _).mono ?_; rintro e y7 ⟨rfl, c7⟩; have B7 := Lib.hid (B6.out.trans (c7.mono (bsz B6.out))); clear c7))
        go_ret
        exact ⟨rfl, B7.out⟩
end Go.Proofs.Ytmojdafegljghaa.clockCopies
