/- The walk of skaldlaw18.ClockPlays: it returns true, and writes nothing that was there. -/
import Derived.Test.YtmojdafegljghaaClockS
import Derived.Deep.RegionHeld3
import Derived.OpenShut
set_option linter.unusedVariables false
set_option linter.unusedSimpArgs false
namespace Go.Proofs.Ytmojdafegljghaa.clockPlays
open Go.RowKit Go.Shelf
set_option maxRecDepth 100000 in
set_option maxHeartbeats 4000000 in
theorem walk (v0 : Value) (L : List (Int × Int × Int)) (id : Int) (w : World) (hL : StepsIn w v0 L) (w1 : (Lit.int .i64 id).wf = true) :
    Calls Try.prog 7 #[v0, .int .i64 id] w fun e w' => e = .returned (.bool true) ∧ Below w.heap.size w w' := by
  have hid := in64_wf w1
  clear w1
  obtain ⟨A, cap, rfl, hcap, hmax, hin, hc⟩ := hL
  have HC := Lib.hid hc
  have HIN := Lib.hid hin
  have HID := Lib.hid hid
  have HCM : Hid (L.length ≤ cap ∧ cap ≤ maxLen) := ⟨hcap, hmax⟩
  clear hid hcap hmax hin hc
  go_enter Try.func7, Try.ntmps7
  by_cases hlen : 150 < L.length
  · go_wp2_with fail
    refine (works_any _).mono ?_
    rintro e w4 ⟨rfl, hb4⟩
    go_wp2_with fail
    go_ret
    exact ⟨rfl, hb4⟩
  · go_wp2_with fail
    refine (new_S _).mono ?_
    rintro e w1 ⟨p, m, rfl, t1, hp, hm, b1⟩
    go_wp2_with fail
    refine (rnew_any _).mono ?_
    rintro e w2 ⟨q, rfl, r2, hq, b2⟩
    have PR0 : Hid (Pair w2 p m q (.slice none 0 0) 0 []) := ⟨t1.below b2, r2⟩
    have bW := bchain b1 b2
    have hq' : w.heap.size ≤ q := Nat.le_trans b1.size hq
    have hL150 : L.length ≤ 150 := by omega
    clear t1 r2 b1 b2 hq
    go_wp2_with fail
    go_loopw [5, 6, 7, 8, 9] (fun a b c d n wr => ∃ (i p m q : Nat) (v : Value) (now : Int) (M : List (Int × Int)), i ≤ L.length ∧ n = .int .i64 i ∧ a = .pointer (some ⟨p, 0, none⟩) ∧ b = .pointer (some ⟨q, 0, none⟩) ∧ Pair wr p m q v now M ∧ OldOk wr (S3 p m q) c d ∧
      0 ≤ now ∧ now ≤ i ∧ M.length ≤ i ∧ w.heap.size ≤ p ∧ w.heap.size ≤ m ∧ w.heap.size ≤ q ∧ Below w.heap.size w wr) (fun _ _ _ _ n _ => L.length - (intOf n).toNat)
    case atStart => exact ⟨0, p, m, q, _, 0, [], by omega, rfl, rfl, rfl, PR0.out, .inl ⟨rfl, rfl⟩, by simp, by simp, by simp, hp, hm, hq', bW⟩
    case round =>
      clear PR0 hp hm hq' bW
      obtain ⟨i, p, m, q, v, now, M, hi, rfl, rfl, rfl, hP, hO, hn0, hn1, hM, hp, hm, hq, hB⟩ := hrel
      have PR := Lib.hid hP
      have OO := Lib.hid hO
      have hltp := hP.prog.lt
      have hltq := hP.ref.blk.lt
      have hpq := hP.pq
      have hmq := hP.mq
      clear hP hO
      by_cases hlt : i < L.length
      · obtain ⟨b, off, rfl, hb, hcells⟩ := HC.out (by omega)
        obtain ⟨⟨x, y, z⟩, hs⟩ : ∃ s, L[i]? = some s := ⟨_, List.getElem?_eq_getElem hlt⟩
        obtain ⟨iy, iz⟩ := (HIN.out _ (List.mem_of_getElem? hs)).2
        obtain ⟨q0, q1, q2⟩ := hcells i x y z hs
        have d0 := bcell hB q0
        have d1 := bcell hB q1
        have d2 := bcell hB q2
        have HIY := Lib.hid iy
        clear q0 q1 q2 hs hcells iy iz
        by_cases x0 : x = 0
        · have x0' : ((x : Int) == 0) = true := by simpa using x0
          clear x0
          go_wp2_with fail
          have PA := Lib.hid (PR.out.below (((Below.refl _ wr).alloc (Nat.le_refl _) (.cells #[.int .i64 x, .int .i64 y, .int .i64 z] 37))))
          have OA := Lib.hid (OO.out.fr (Fr.of_below (((Below.refl _ wr).alloc (Nat.le_refl _) (.cells #[.int .i64 x, .int .i64 y, .int .i64 z] 37)))))
          have BA := hB.alloc hB.size (.cells #[.int .i64 x, .int .i64 y, .int .i64 z] 37)
          have KA : Hid (Blk (wr.alloc (.cells #[.int .i64 x, .int .i64 y, .int .i64 z] 37)) wr.heap.size 37 #[.int .i64 x, .int .i64 y, .int .i64 z]) := Blk.new _ _ _
          generalize wr.alloc (.cells #[.int .i64 x, .int .i64 y, .int .i64 z] 37) = W1 at *
          obtain ⟨b8, hb8⟩ : ∃ b8, b8 = wr.heap.size := ⟨_, rfl⟩
          rw [← hb8] at KA hltp hltq ⊢
          clear hb8
          have k1 := KA.out.cell (i := 1) rfl
          have k2 := KA.out.cell (i := 2) rfl
          have hw8 := KA.out.lt
          go_region_held3 (fun W => W.cell? ⟨b8, 1, none⟩ = some (.int .i64 y) ∧ W.cell? ⟨b8, 2, none⟩ = some (.int .i64 z))
            (first | exact ⟨by assumption, by assumption⟩ | go_keep)
            (first
              | (go_at_call 12; refine (set_S p m y z now M _ PA.out.drew.prog HIY.out (by omega)).mono ?_; rintro e w3 ⟨rfl, t3, f3⟩; have q31 := f3.cell (p := ⟨b8, 1, none⟩) (fun e => by have e : b8 = m := e; omega) k1; have q32 := f3.cell (p := ⟨b8, 2, none⟩) (fun e => by have e : b8 = m := e; omega) k2; have r3 := PA.out.drew.refM f3)
              | (go_at_call 22; refine (rset_S q v y z now M _ r3 (by omega)).mono ?_; rintro e w4 ⟨v4, rfl, r4, f4⟩; have q41 := f4.cell (p := ⟨b8, 1, none⟩) (fun e => by have e : b8 = q := e; omega) q31; have q42 := f4.cell (p := ⟨b8, 2, none⟩) (fun e => by have e : b8 = q := e; omega) q32; have t4 := t3.fr f4 (fun e => by have e : p = q := e; exact hpq e) (fun e => by have e : m = q := e; exact hmq e)))
          have P9 : Hid (Pair w4 p m q v4 now (setS now y z M)) := ⟨t4, r4⟩
          have F9 : Fr (S3 p m q) W1 w4 := (Fr.of_drew (f3.mono (fun j e => .inr (.inl e)))).trans (f4.mono (fun j e => .inr (.inr e)))
          have O9 := Lib.hid (OA.out.fr F9)
          have K9 := Lib.hid (F9.cell (p := ⟨b8, 1, none⟩) (fun e => by have e : b8 = p ∨ b8 = m ∨ b8 = q := e; omega) k1)
          have B9 : Below w.heap.size w w4 := Fr.upB BA F9 (fun j e => by rcases e with e | e | e <;> omega)
          go_wp2_with fail
          refine (shows_any p m q _ _ id _ _ P9.out.prog P9.out.ref HID.out).mono ?_
          rintro e w10 ⟨rfl, b10⟩
          have k10 := bcell b10 K9.out
          have P10 := Lib.hid (P9.out.below b10)
          go_wp2_with fail
          refine (shows_any p m q _ _ y _ _ P10.out.prog P10.out.ref HIY.out).mono ?_
          rintro e w11 ⟨rfl, b11⟩
          go_wp2_with fail
          go_roundw
          case rel =>
            have hsl := len_setS_le now y z M
            exact ⟨i + 1, p, m, q, _, now, setS now y z M, by omega, by go_num, rfl, rfl, P10.out.below b11, (O9.out.fr (Fr.of_below b10)).fr (Fr.of_below b11), by omega, by omega, by omega, by omega, by omega, by omega, bchain (bchain B9 b10) b11⟩
          case measure => simp [intOf]; omega
        · have x0' : ((x : Int) == 0) = false := by simpa using x0
          by_cases x1 : x = 1
          · have x1' : ((x : Int) == 1) = true := by simpa using x1
            clear x0 x1
            go_wp2_with fail
            have PA := Lib.hid (PR.out.below (((Below.refl _ wr).alloc (Nat.le_refl _) (.cells #[.int .i64 x, .int .i64 y, .int .i64 z] 37))))
            have OA := Lib.hid (OO.out.fr (Fr.of_below (((Below.refl _ wr).alloc (Nat.le_refl _) (.cells #[.int .i64 x, .int .i64 y, .int .i64 z] 37)))))
            have BA := hB.alloc hB.size (.cells #[.int .i64 x, .int .i64 y, .int .i64 z] 37)
            have KA : Hid (Blk (wr.alloc (.cells #[.int .i64 x, .int .i64 y, .int .i64 z] 37)) wr.heap.size 37 #[.int .i64 x, .int .i64 y, .int .i64 z]) := Blk.new _ _ _
            generalize wr.alloc (.cells #[.int .i64 x, .int .i64 y, .int .i64 z] 37) = W1 at *
            obtain ⟨b8, hb8⟩ : ∃ b8, b8 = wr.heap.size := ⟨_, rfl⟩
            rw [← hb8] at KA hltp hltq ⊢
            clear hb8
            have k1 := KA.out.cell (i := 1) rfl
            have k2 := KA.out.cell (i := 2) rfl
            have hw8 := KA.out.lt
            go_region_held3 (fun W => W.cell? ⟨b8, 1, none⟩ = some (.int .i64 y) ∧ W.cell? ⟨b8, 2, none⟩ = some (.int .i64 z))
              (first | exact ⟨by assumption, by assumption⟩ | go_keep)
              (first
                | (go_at_call 17; refine (stop_S p m y now M _ PA.out.drew.prog HIY.out).mono ?_; rintro e w3 ⟨rfl, t3, f3⟩; have q31 := f3.cell (p := ⟨b8, 1, none⟩) (fun e => by have e : b8 = m := e; omega) k1; have q32 := f3.cell (p := ⟨b8, 2, none⟩) (fun e => by have e : b8 = m := e; omega) k2; have r3 := PA.out.drew.refM f3)
                | (go_at_call 23; refine (rstop_S q v y now M _ r3 (by omega)).mono ?_; rintro e w4 ⟨v4, rfl, r4, f4⟩; have q41 := f4.cell (p := ⟨b8, 1, none⟩) (fun e => by have e : b8 = q := e; omega) q31; have q42 := f4.cell (p := ⟨b8, 2, none⟩) (fun e => by have e : b8 = q := e; omega) q32; have t4 := t3.fr f4 (fun e => by have e : p = q := e; exact hpq e) (fun e => by have e : m = q := e; exact hmq e)))
            have P9 : Hid (Pair w4 p m q v4 now (del y M)) := ⟨t4, r4⟩
            have F9 : Fr (S3 p m q) W1 w4 := (Fr.of_drew (f3.mono (fun j e => .inr (.inl e)))).trans (f4.mono (fun j e => .inr (.inr e)))
            have O9 := Lib.hid (OA.out.fr F9)
            have K9 := Lib.hid (F9.cell (p := ⟨b8, 1, none⟩) (fun e => by have e : b8 = p ∨ b8 = m ∨ b8 = q := e; omega) k1)
            have B9 : Below w.heap.size w w4 := Fr.upB BA F9 (fun j e => by rcases e with e | e | e <;> omega)
            go_wp2_with fail
            refine (shows_any p m q _ _ id _ _ P9.out.prog P9.out.ref HID.out).mono ?_
            rintro e w10 ⟨rfl, b10⟩
            have k10 := bcell b10 K9.out
            have P10 := Lib.hid (P9.out.below b10)
            go_wp2_with fail
            refine (shows_any p m q _ _ y _ _ P10.out.prog P10.out.ref HIY.out).mono ?_
            rintro e w11 ⟨rfl, b11⟩
            go_wp2_with fail
            go_roundw
            case rel =>
              have hsl := len_del_le y M
              exact ⟨i + 1, p, m, q, _, now, del y M, by omega, by go_num, rfl, rfl, P10.out.below b11, (O9.out.fr (Fr.of_below b10)).fr (Fr.of_below b11), by omega, by omega, by omega, by omega, by omega, by omega, bchain (bchain B9 b10) b11⟩
            case measure => simp [intOf]; omega
          · have x1' : ((x : Int) == 1) = false := by simpa using x1
            by_cases x2 : x = 2
            · have x2' : ((x : Int) == 2) = true := by simpa using x2
              clear x0 x1 x2
              go_wp2_with fail
              have PA := Lib.hid (PR.out.below (((Below.refl _ wr).alloc (Nat.le_refl _) (.cells #[.int .i64 x, .int .i64 y, .int .i64 z] 37))))
              have OA := Lib.hid (OO.out.fr (Fr.of_below (((Below.refl _ wr).alloc (Nat.le_refl _) (.cells #[.int .i64 x, .int .i64 y, .int .i64 z] 37)))))
              have BA := hB.alloc hB.size (.cells #[.int .i64 x, .int .i64 y, .int .i64 z] 37)
              have KA : Hid (Blk (wr.alloc (.cells #[.int .i64 x, .int .i64 y, .int .i64 z] 37)) wr.heap.size 37 #[.int .i64 x, .int .i64 y, .int .i64 z]) := Blk.new _ _ _
              generalize wr.alloc (.cells #[.int .i64 x, .int .i64 y, .int .i64 z] 37) = W1 at *
              obtain ⟨b8, hb8⟩ : ∃ b8, b8 = wr.heap.size := ⟨_, rfl⟩
              rw [← hb8] at KA hltp hltq ⊢
              clear hb8
              have k1 := KA.out.cell (i := 1) rfl
              have k2 := KA.out.cell (i := 2) rfl
              have hw8 := KA.out.lt
              go_wp2_with (first
                | (go_at_call 13; refine (tick_S p m now M _ PA.out.prog (by omega)).mono ?_; rintro e w3 ⟨v3, rfl, o3, t3, f3⟩; have r3 := PA.out.refT f3; have z3 := f3.size)
                | (go_at_call 24; refine (rtick_S q v now M _ r3 PA.out.prog.good).mono ?_; rintro e w5 ⟨u5, v4, rfl, o5, r5, f5⟩; have t5 := t3.fr f5 (fun e => by have e : p = q := e; exact hpq e) (fun e => by have e : m = q := e; exact hmq e); have o3' := o3.fr f5 (fun j e => by have e : j = q := e; omega))
                | (go_at_call 20; refine (same_any _ _ _ _ (outT now M) (outT now M) _ o3' o5 (by have := out_len now M; omega)).mono ?_; rintro e w4 ⟨he, b4⟩; rw [decide_eq_true rfl] at he; subst he))
              have t4 := t5.below b4
              have r4 := r5.below b4
              have P9 : Hid (Pair w4 p m q v4 (now + 1) (restT now M)) := ⟨t4, r4⟩
              have F9 : Fr (S3 p m q) W1 w4 := ((f3.mono (fun j e => e.elim .inl (fun e => .inr (.inl e)))).trans (f5.mono (fun j e => .inr (.inr e)))).trans (Fr.of_below b4)
              have O9 := Lib.hid (OA.out.fr F9)
              have K9 := Lib.hid (F9.cell (p := ⟨b8, 1, none⟩) (fun e => by have e : b8 = p ∨ b8 = m ∨ b8 = q := e; omega) k1)
              have B9 : Below w.heap.size w w4 := Fr.upB BA F9 (fun j e => by rcases e with e | e | e <;> omega)
              go_wp2_with fail
              refine (shows_any p m q _ _ id _ _ P9.out.prog P9.out.ref HID.out).mono ?_
              rintro e w10 ⟨rfl, b10⟩
              have k10 := bcell b10 K9.out
              have P10 := Lib.hid (P9.out.below b10)
              go_wp2_with fail
              refine (shows_any p m q _ _ y _ _ P10.out.prog P10.out.ref HIY.out).mono ?_
              rintro e w11 ⟨rfl, b11⟩
              go_wp2_with fail
              go_roundw
              case rel =>
                have hsl := len_restT_le now M
                exact ⟨i + 1, p, m, q, _, now + 1, restT now M, by omega, by go_num, rfl, rfl, P10.out.below b11, (O9.out.fr (Fr.of_below b10)).fr (Fr.of_below b11), by omega, by omega, by omega, by omega, by omega, by omega, bchain (bchain B9 b10) b11⟩
              case measure => simp [intOf]; omega
            · have x2' : ((x : Int) == 2) = false := by simpa using x2
              by_cases x3 : x = 3
              · have x3' : ((x : Int) == 3) = true := by simpa using x3
                clear x0 x1 x2 x3
                go_wp2_with fail
                have PA := Lib.hid (PR.out.below (((Below.refl _ wr).alloc (Nat.le_refl _) (.cells #[.int .i64 x, .int .i64 y, .int .i64 z] 37))))
                have OA := Lib.hid (OO.out.fr (Fr.of_below (((Below.refl _ wr).alloc (Nat.le_refl _) (.cells #[.int .i64 x, .int .i64 y, .int .i64 z] 37)))))
                have BA := hB.alloc hB.size (.cells #[.int .i64 x, .int .i64 y, .int .i64 z] 37)
                have KA : Hid (Blk (wr.alloc (.cells #[.int .i64 x, .int .i64 y, .int .i64 z] 37)) wr.heap.size 37 #[.int .i64 x, .int .i64 y, .int .i64 z]) := Blk.new _ _ _
                generalize wr.alloc (.cells #[.int .i64 x, .int .i64 y, .int .i64 z] 37) = W1 at *
                obtain ⟨b8, hb8⟩ : ∃ b8, b8 = wr.heap.size := ⟨_, rfl⟩
                rw [← hb8] at KA hltp hltq ⊢
                clear hb8
                have k1 := KA.out.cell (i := 1) rfl
                have k2 := KA.out.cell (i := 2) rfl
                have hw8 := KA.out.lt
                have hPA := PA.out.prog.lt
                have hPQ := PA.out.ref.blk.lt
                have hPV := PA.out.ref.row.lt
                have HPV := Lib.hid hPV
                clear hPV
                go_wp2_with (first
                  | (go_at_call 25; refine (copy_S p m now M _ PA.out.prog).mono ?_; rintro e w3 ⟨p', m', rfl, t3, hp', hm', b3⟩; have z3 := b3.size)
                  | (go_at_call 26; refine (rcopy_any q v now (rel now M) _ (PA.out.below b3).ref (by rw [rel_len]; omega)).mono ?_; rintro e w4 ⟨q', v4, rfl, r4, hq', hv', b4⟩))
                have t4 := t3.below b4
                have P9 : Hid (Pair w4 p' m' q' v4 now M) := ⟨t4, r4⟩
                have b14 := bchain b3 b4
                have P0 := PA.out.below b14
                have O9 : Hid (OldOk w4 (S3 p' m' q') (.pointer (some ⟨p, 0, none⟩)) (.pointer (some ⟨q, 0, none⟩))) :=
                  .inr ⟨p, m, q, v, now, M, rfl, rfl, P0.prog, P0.ref, (fun e => by rcases e with e | e | e <;> omega), (fun e => by rcases e with e | e | e <;> omega), (fun e => by rcases e with e | e | e <;> omega), fun g hg e => by have := HPV.out g hg; rcases e with e | e | e <;> omega⟩
                have K9 := Lib.hid (bcell b14 k1)
                have B9 : Below w.heap.size w w4 := BA.trans (b14.mono BA.size)
                have hq9 := hB.size
                go_wp2_with fail
                refine (shows_any p' m' q' _ _ id _ _ P9.out.prog P9.out.ref HID.out).mono ?_
                rintro e w10 ⟨rfl, b10⟩
                have k10 := bcell b10 K9.out
                have P10 := Lib.hid (P9.out.below b10)
                go_wp2_with fail
                refine (shows_any p' m' q' _ _ y _ _ P10.out.prog P10.out.ref HIY.out).mono ?_
                rintro e w11 ⟨rfl, b11⟩
                go_wp2_with fail
                go_roundw
                case rel =>
                  skip
                  exact ⟨i + 1, p', m', q', _, now, M, by omega, by go_num, rfl, rfl, P10.out.below b11, (O9.out.fr (Fr.of_below b10)).fr (Fr.of_below b11), by omega, by omega, by omega, by omega, by omega, by omega, bchain (bchain B9 b10) b11⟩
                case measure => simp [intOf]; omega
              · have x3' : ((x : Int) == 3) = false := by simpa using x3
                clear x0 x1 x2 x3
                go_wp2_with fail
                have PA := Lib.hid (PR.out.below (((Below.refl _ wr).alloc (Nat.le_refl _) (.cells #[.int .i64 x, .int .i64 y, .int .i64 z] 37))))
                have OA := Lib.hid (OO.out.fr (Fr.of_below (((Below.refl _ wr).alloc (Nat.le_refl _) (.cells #[.int .i64 x, .int .i64 y, .int .i64 z] 37)))))
                have BA := hB.alloc hB.size (.cells #[.int .i64 x, .int .i64 y, .int .i64 z] 37)
                have KA : Hid (Blk (wr.alloc (.cells #[.int .i64 x, .int .i64 y, .int .i64 z] 37)) wr.heap.size 37 #[.int .i64 x, .int .i64 y, .int .i64 z]) := Blk.new _ _ _
                generalize wr.alloc (.cells #[.int .i64 x, .int .i64 y, .int .i64 z] 37) = W1 at *
                obtain ⟨b8, hb8⟩ : ∃ b8, b8 = wr.heap.size := ⟨_, rfl⟩
                rw [← hb8] at KA hltp hltq ⊢
                clear hb8
                have k1 := KA.out.cell (i := 1) rfl
                have k2 := KA.out.cell (i := 2) rfl
                have hw8 := KA.out.lt
                have P9 := PA
                have O9 := OA
                have K9 := Lib.hid k1
                have B9 := BA
                go_wp2_with fail
                refine (shows_any p m q _ _ id _ _ P9.out.prog P9.out.ref HID.out).mono ?_
                rintro e w10 ⟨rfl, b10⟩
                have k10 := bcell b10 K9.out
                have P10 := Lib.hid (P9.out.below b10)
                go_wp2_with fail
                refine (shows_any p m q _ _ y _ _ P10.out.prog P10.out.ref HIY.out).mono ?_
                rintro e w11 ⟨rfl, b11⟩
                go_wp2_with fail
                go_roundw
                case rel =>
                  skip
                  exact ⟨i + 1, p, m, q, _, now, M, by omega, by go_num, rfl, rfl, P10.out.below b11, (O9.out.fr (Fr.of_below b10)).fr (Fr.of_below b11), by omega, by omega, by omega, by omega, by omega, by omega, bchain (bchain B9 b10) b11⟩
                case measure => simp [intOf]; omega
      · go_wp2_with fail
        refine (old_shows id OO.out HID.out).mono ?_
        rintro e w3 ⟨rfl, b3⟩
        go_wp2_with fail
        refine (works_any _).mono ?_
        rintro e w4 ⟨rfl, b4⟩
        go_wp2_with fail
        go_ret
        exact ⟨rfl, bchain (bchain hB b3) b4⟩
end Go.Proofs.Ytmojdafegljghaa.clockPlays
