/- skaldlaw25.votes, walked. -/
import Derived.Test.YthkdmpalhdifbaaGreatDoorChoV
import Derived.Deep.DeepMust
import Derived.Deep.RegionHeld3
import Derived.Deep.DeepCutAuto
import Derived.Deep.CutBlock
import Derived.Deep.LoopGhost
set_option linter.unusedVariables false
set_option linter.unusedSimpArgs false
namespace Go.Proofs.YthkdmpalhdifbaaGreatDoor
open Go.RowKit Go.Maps Go.Shelf Go.ChangeShapes Go.WideShapes Go.Deep

theorem remN (y n a : Nat) (h : (y : Int) % (n : Int) = (a : Int)) : (y : Int).tmod (n : Int) = (a : Int) := by rw [Int.tmod_eq_emod_of_nonneg (by omega)]; exact h
theorem blk_two (w : World) (o : Obj) (cs : Array Value) : Blk ((w.alloc o).alloc (.cells cs 35)).drew (w.heap.size + 1) 35 cs := by
  have := Blk.new (w.alloc o) 35 cs
  rwa [World.size_alloc] at this
theorem VtRow.fr {w w' : World} {lo : Nat} {v : Value} {L : List Vt} {S : Nat → Prop} (h : VtRow w lo v L) (k : Fr S w w') (hS : ∀ g, v.ownBlock = some g → ¬ S g) : VtRow w' lo v L :=
  ⟨h.1, h.2.imp id fun ⟨g, cap, cur, h1, h2, h3, h4⟩ => ⟨g, cap, cur, h1, h2, (k.block g (Array.getElem?_eq_some_iff.1 h3).1 (hS g (by rw [h1]; rfl))).trans h3, h4⟩⟩
set_option maxRecDepth 100000 in
set_option maxHeartbeats 4000000 in
theorem votes_any (n : Nat) (v : Value) (zs : List Nat) (w : World) (h : NumsIn w v zs) (hn : 1 ≤ n ∧ n ≤ 7) :
    Calls Tryz.prog 25 #[v, .int .i64 (n : Int)] w fun e w' => ∃ vo L, e = .returned vo ∧ VtRow w' w.heap.size vo L ∧ VOk n L ∧ Below w.heap.size w w' := by
  obtain ⟨A0, cap0, rfl, hcap0, hmax0, hin, hc⟩ := h
  obtain ⟨i0, hi, hz0, hz1, hz2⟩ := info_parts info_vt
  have HI := Lib.hid hi
  have HZ0 := Lib.hid hz0
  have HZ1 := Lib.hid hz1
  have HZ2 := Lib.hid hz2
  have HC := Lib.hid hc
  have HIN := Lib.hid hin
  have hml : cap0 ≤ 9223372036854775807 := by unfold maxLen at hmax0; omega
  clear hi hz0 hz1 hz2 hc hin hmax0
  obtain ⟨N, hN⟩ : ∃ N : Nat, N = min zs.length 40 := ⟨_, rfl⟩
  have hN1 : N ≤ zs.length ∧ N ≤ 40 := by omega
  have hN2 : min (zs.length : Int) 40 = (N : Int) := by omega
  clear hN
  go_enter Tryz.func25, Tryz.ntmps25
  go_wp2_with fail
  go_loopg [18, 5] N (fun g c vo wr => ∃ (i : Nat) (L : List Vt), i ≤ N ∧ g = N - i ∧ c = .int .i64 i ∧ VtRow wr w.heap.size vo L ∧ VOk n L ∧ L.length ≤ i ∧ Below w.heap.size w wr)
  case atStart => exact ⟨0, [], by omega, by omega, rfl, ⟨rfl, .inl ⟨rfl, rfl⟩⟩, VOk.nil n, by simp, Below.refl _ _⟩
  case round =>
    obtain ⟨i, L, hi, rfl, rfl, hrow, hok, hli, hB⟩ := hrel
    have ROW := Lib.hid hrow
    have OK := Lib.hid hok
    have B := Lib.hid hB
    clear hrow hok hB
    by_cases hlt : i < N
    case neg =>
      have e : i = N := by omega
      subst e
      go_wp2_with fail
      go_returns
      exact ⟨_, L, rfl, ROW.out, OK.out, B.out⟩
    case pos =>
    obtain ⟨b, off, rfl, hb, hcells⟩ := HC.out (by omega)
    obtain ⟨z, hz⟩ : ∃ x, zs[i]? = some x := ⟨_, List.getElem?_eq_getElem (by omega)⟩
    have q0 := bcell B.out (hcells i z hz)
    have hz16 := HIN.out z (List.mem_of_getElem? hz)
    obtain ⟨nd, hnd⟩ : ∃ k : Nat, k = z % n := ⟨_, rfl⟩
    obtain ⟨r0, hr⟩ : ∃ k : Nat, k = z / 8 % 5 := ⟨_, rfl⟩
    obtain ⟨d, hd⟩ : ∃ k : Nat, k = z / 64 % n := ⟨_, rfl⟩
    obtain ⟨sl, hsl⟩ : ∃ k : Nat, k = z / 512 % 3 := ⟨_, rfl⟩
    obtain ⟨k, hk⟩ : ∃ k : Nat, k = z / 2048 % 3 := ⟨_, rfl⟩
    have hk3 : k < 3 := by omega
    have hndn : nd < n := by rw [hnd]; exact Nat.mod_lt _ (by omega)
    have hdn : d < n := by rw [hd]; exact Nat.mod_lt _ (by omega)
    have hr5 : r0 < 5 := by omega
    have hsl3 : sl < 3 := by omega
    have hrow1 : ∀ (W : World) (o : Obj), (convert 68 9 (.slice (some ⟨W.heap.size, 0, none⟩) 1 1)).run Tryz.prog (W.alloc (.cells #[.int .u8 (97 + (k : Int))] 5)) = .ok (.string (abc k)) (W.alloc (.cells #[.int .u8 (97 + (k : Int))] 5)) := fun W o => convA k _ _ hk3 (Blk.cell (Blk.new W 5 #[.int .u8 (97 + (k : Int))]) rfl)
    have h8 : ((z : Int) / 8).tmod 5 = (r0 : Int) := by rw [Int.tmod_eq_emod_of_nonneg (by omega)]; omega
    have h512 : ((z : Int) / 512).tmod 3 = (sl : Int) := by rw [Int.tmod_eq_emod_of_nonneg (by omega)]; omega
    have h2048 : ((z : Int) / 2048).tmod 3 = (k : Int) := by rw [Int.tmod_eq_emod_of_nonneg (by omega)]; omega
    have hm1 : (z : Int).tmod (n : Int) = (nd : Int) := remN z n nd (by rw [hnd]; exact (Int.natCast_emod z n).symm)
    have hm2 : ((z : Int) / 64).tmod (n : Int) = (d : Int) := by
      have := remN (z / 64) n d (by rw [hd]; exact (Int.natCast_emod (z / 64) n).symm)
      simpa using this
    have hwa : IntKind.i64.wrap (z : Int) = (z : Int) := by rw [IntKind.wrap_i64]; omega
    have hwb : IntKind.i64.wrap ((z : Int) / 64) = (z : Int) / 64 := by rw [IntKind.wrap_i64]; omega
    have hwc : IntKind.i64.wrap (r0 : Int) = (r0 : Int) := by rw [IntKind.wrap_i64]; omega
    obtain ⟨R, hR⟩ : ∃ R : Nat, R = 1 + r0 := ⟨_, rfl⟩
    have hR5 : 1 ≤ R ∧ R ≤ 5 := by omega
    have hwd : IntKind.i64.wrap (1 + (r0 : Int)) = (R : Int) := by rw [IntKind.wrap_i64]; omega
    have hwe : IntKind.i64.wrap (sl : Int) = (sl : Int) := by rw [IntKind.wrap_i64]; omega
    have hwf : IntKind.u8.wrap (k : Int) = (k : Int) := by rw [IntKind.wrap_u8]; omega
    have hwg : IntKind.u8.wrap (97 + (k : Int)) = 97 + (k : Int) := by rw [IntKind.wrap_u8]; omega
    have hn0 : ¬ n = 0 := by omega
    have hrow1 := convA k (wr.alloc (.cells #[.int .u8 (97 + (k : Int))] 5)).drew wr.heap.size hk3 (Blk.cell (Blk.new wr 5 #[.int .u8 (97 + (k : Int))]) rfl)
    have hrow2 := convA k ((wr.alloc (.cells #[.int .i64 0, .int .i64 0, .int .i64 0, .int .i64 0, .string ⟨#[]⟩] 35)).alloc (.cells #[.int .u8 (97 + (k : Int))] 5)).drew (wr.heap.size + 1) hk3 (by
      have := Blk.cell (i := 0) (v := .int .u8 (97 + (k : Int))) (Blk.new (wr.alloc (.cells #[.int .i64 0, .int .i64 0, .int .i64 0, .int .i64 0, .string ⟨#[]⟩] 35)) 5 #[.int .u8 (97 + (k : Int))]) rfl
      rwa [World.size_alloc] at this)
    have hrow3 := convA k ((wr.alloc (.cells #[.int .u8 (97 + (k : Int))] 5)).alloc (.cells #[.int .i64 0, .int .i64 0, .int .i64 0, .int .i64 0, .string ⟨#[]⟩] 35)).drew wr.heap.size hk3 (by
      exact Blk.cell (Blk.alloc (Blk.new wr 5 #[.int .u8 (97 + (k : Int))]) _) rfl)
    clear hz hcells hnd hr hd hsl hk hR
    go_upto_region 5 with fail
    go_cut [8] (fun P wx => ∃ bp, P = .pointer (some ⟨bp, 0, none⟩) ∧ Blk wx bp 35 #[.int .i64 (nd : Int), .int .i64 (R : Int), .int .i64 (d : Int), .int .i64 (sl : Int), .string (abc k)] ∧ wr.heap.size ≤ bp ∧ Below wr.heap.size wr wx)
    case first =>
      as_aux_lemma =>
        refine wp_region_held_drew (S := (fun _ => True)) (by kernel_rfl) ?_ (fun hHeld => ?_)
        · exact trivial
        try dsimp only at hHeld
        refine held_yes (i := 0) (some 22) (v := ?_) rfl rfl (by kernel_rfl) (by kernel_rfl) (by kernel_rfl) (fun _ _ _ h => h) (by rfl) ?_ hHeld ?_
        rotate_left
        · (intro w hSw; (try dsimp only at hSw); go_simp; all_goals with_reducible rfl)
        try simp only [Act.put, List.setIfInBounds_toArray, List.set_cons_zero, List.set_cons_succ]
        refine held_yes (i := 1) (some 23) (v := ?_) rfl rfl (by kernel_rfl) (by kernel_rfl) (by kernel_rfl) (fun _ _ _ h => h) (by rfl) ?_ hHeld ?_
        rotate_left
        · (intro w hSw; (try dsimp only at hSw); go_simp; all_goals with_reducible rfl)
        try simp only [Act.put, List.setIfInBounds_toArray, List.set_cons_zero, List.set_cons_succ]
        refine held_yes (i := 2) (some 24) (v := ?_) rfl rfl (by kernel_rfl) (by kernel_rfl) (by kernel_rfl) (fun _ _ _ h => h) (by rfl) ?_ hHeld ?_
        rotate_left
        · (intro w hSw; (try dsimp only at hSw); go_simp; all_goals with_reducible rfl)
        try simp only [Act.put, List.setIfInBounds_toArray, List.set_cons_zero, List.set_cons_succ]
        refine held_yes (i := 3) (some 25) (v := ?_) rfl rfl (by kernel_rfl) (by kernel_rfl) (by kernel_rfl) (fun _ _ _ h => h) (by rfl) ?_ hHeld ?_
        rotate_left
        · (intro w hSw; (try dsimp only at hSw); go_simp; all_goals with_reducible rfl)
        try simp only [Act.put, List.setIfInBounds_toArray, List.set_cons_zero, List.set_cons_succ]
        refine held_yes (i := 4) (some 26) (v := ?_) rfl rfl (by kernel_rfl) (by kernel_rfl) (by kernel_rfl) (fun _ _ _ h => h) (by rfl) ?_ hHeld ?_
        rotate_left
        · (intro w hSw; (try dsimp only at hSw); go_simp; all_goals with_reducible rfl)
        try simp only [Act.put, List.setIfInBounds_toArray, List.set_cons_zero, List.set_cons_succ]
        refine held_yes (i := 5) (some 27) (v := ?_) rfl rfl (by kernel_rfl) (by kernel_rfl) (by kernel_rfl) (fun _ _ _ h => h) (by rfl) ?_ hHeld ?_
        rotate_left
        · (intro w hSw; (try dsimp only at hSw); go_simp; all_goals with_reducible rfl)
        try simp only [Act.put, List.setIfInBounds_toArray, List.set_cons_zero, List.set_cons_succ]
        refine held_yes (i := 6) (some 28) (v := ?_) rfl rfl (by kernel_rfl) (by kernel_rfl) (by kernel_rfl) (fun _ _ _ h => h) (by rfl) ?_ hHeld ?_
        rotate_left
        · (intro w hSw; (try dsimp only at hSw); go_simp; all_goals with_reducible rfl)
        try simp only [Act.put, List.setIfInBounds_toArray, List.set_cons_zero, List.set_cons_succ]
        refine held_yes (i := 7) (some 29) (v := ?_) rfl rfl (by kernel_rfl) (by kernel_rfl) (by kernel_rfl) (fun _ _ _ h => h) (by rfl) ?_ hHeld ?_
        rotate_left
        · (intro w hSw; (try dsimp only at hSw); go_simp; all_goals with_reducible rfl)
        try simp only [Act.put, List.setIfInBounds_toArray, List.set_cons_zero, List.set_cons_succ]
        refine held_yes (i := 8) (some 30) (v := ?_) rfl rfl (by kernel_rfl) (by kernel_rfl) (by kernel_rfl) (fun _ _ _ h => h) (by rfl) ?_ hHeld ?_
        rotate_left
        · (intro w hSw; (try dsimp only at hSw); go_simp; all_goals with_reducible rfl)
        try simp only [Act.put, List.setIfInBounds_toArray, List.set_cons_zero, List.set_cons_succ]
        refine held_yes (i := 9) (some 31) (v := ?_) rfl rfl (by kernel_rfl) (by kernel_rfl) (by kernel_rfl) (fun _ _ _ h => h) (by rfl) ?_ hHeld ?_
        rotate_left
        · (intro w hSw; (try dsimp only at hSw); go_simp; all_goals with_reducible rfl)
        try simp only [Act.put, List.setIfInBounds_toArray, List.set_cons_zero, List.set_cons_succ]
        refine held_yes (i := 10) (some 32) (v := ?_) rfl rfl (by kernel_rfl) (by kernel_rfl) (by kernel_rfl) (fun _ _ _ h => h) (by rfl) ?_ hHeld ?_
        rotate_left
        · (intro w hSw; (try dsimp only at hSw); go_simp; all_goals with_reducible rfl)
        try simp only [Act.put, List.setIfInBounds_toArray, List.set_cons_zero, List.set_cons_succ]
        refine held_yes (i := 11) (some 33) (v := ?_) rfl rfl (by kernel_rfl) (by kernel_rfl) (by kernel_rfl) (fun _ _ _ h => h) (by rfl) ?_ hHeld ?_
        rotate_left
        · (intro w hSw; (try dsimp only at hSw); go_simp; all_goals with_reducible rfl)
        try simp only [Act.put, List.setIfInBounds_toArray, List.set_cons_zero, List.set_cons_succ]
        refine held_yes (i := 12) (some 34) (v := ?_) rfl rfl (by kernel_rfl) (by kernel_rfl) (by kernel_rfl) (fun _ _ _ h => h) (by rfl) ?_ hHeld ?_
        rotate_left
        · (intro w hSw; (try dsimp only at hSw); go_simp; all_goals with_reducible rfl)
        try simp only [Act.put, List.setIfInBounds_toArray, List.set_cons_zero, List.set_cons_succ]
        refine held_yes (i := 13) (some 35) (v := ?_) rfl rfl (by kernel_rfl) (by kernel_rfl) (by kernel_rfl) (fun _ _ _ h => h) (by rfl) ?_ hHeld ?_
        rotate_left
        · (intro w hSw; (try dsimp only at hSw); go_simp; all_goals with_reducible rfl)
        try simp only [Act.put, List.setIfInBounds_toArray, List.set_cons_zero, List.set_cons_succ]
        refine held_yes (i := 14) (some 36) (v := ?_) rfl rfl (by kernel_rfl) (by kernel_rfl) (by kernel_rfl) (fun _ _ _ h => h) (by rfl) ?_ hHeld ?_
        rotate_left
        · (intro w hSw; (try dsimp only at hSw); go_simp; all_goals with_reducible rfl)
        try simp only [Act.put, List.setIfInBounds_toArray, List.set_cons_zero, List.set_cons_succ]
        refine held_yes (i := 15) (some 37) (v := ?_) rfl rfl (by kernel_rfl) (by kernel_rfl) (by kernel_rfl) (fun _ _ _ h => h) (by rfl) ?_ hHeld ?_
        rotate_left
        · (intro w hSw; (try dsimp only at hSw); go_simp; all_goals with_reducible rfl)
        try simp only [Act.put, List.setIfInBounds_toArray, List.set_cons_zero, List.set_cons_succ]
        refine held_yes (i := 16) (some 38) (v := ?_) rfl rfl (by kernel_rfl) (by kernel_rfl) (by kernel_rfl) (fun _ _ _ h => h) (by rfl) ?_ hHeld ?_
        rotate_left
        · (intro w hSw; (try dsimp only at hSw); go_simp; all_goals with_reducible rfl)
        try simp only [Act.put, List.setIfInBounds_toArray, List.set_cons_zero, List.set_cons_succ]
        refine held_yes (i := 17) (some 39) (v := ?_) rfl rfl (by kernel_rfl) (by kernel_rfl) (by kernel_rfl) (fun _ _ _ h => h) (by rfl) ?_ hHeld ?_
        rotate_left
        · (intro w hSw; (try dsimp only at hSw); go_simp; all_goals with_reducible rfl)
        try simp only [Act.put, List.setIfInBounds_toArray, List.set_cons_zero, List.set_cons_succ]
        refine held_yes (i := 18) (some 40) (v := ?_) rfl rfl (by kernel_rfl) (by kernel_rfl) (by kernel_rfl) (fun _ _ _ h => h) (by rfl) ?_ hHeld ?_
        rotate_left
        · (intro w hSw; (try dsimp only at hSw); go_simp; all_goals with_reducible rfl)
        try simp only [Act.put, List.setIfInBounds_toArray, List.set_cons_zero, List.set_cons_succ]
        refine held_yes (i := 19) (some 41) (v := ?_) rfl rfl (by kernel_rfl) (by kernel_rfl) (by kernel_rfl) (fun _ _ _ h => h) (by rfl) ?_ hHeld ?_
        rotate_left
        · (intro w hSw; (try dsimp only at hSw); go_simp; all_goals with_reducible rfl)
        try simp only [Act.put, List.setIfInBounds_toArray, List.set_cons_zero, List.set_cons_succ]
        refine held_yes (i := 20) (some 42) (v := ?_) rfl rfl (by kernel_rfl) (by kernel_rfl) (by kernel_rfl) (fun _ _ _ h => h) (by rfl) ?_ hHeld ?_
        rotate_left
        · (intro w hSw; (try dsimp only at hSw); go_simp; all_goals with_reducible rfl)
        try simp only [Act.put, List.setIfInBounds_toArray, List.set_cons_zero, List.set_cons_succ]
        refine held_yes (i := 21) (some 43) (v := ?_) rfl rfl (by kernel_rfl) (by kernel_rfl) (by kernel_rfl) (fun _ _ _ h => h) (by rfl) ?_ hHeld ?_
        rotate_left
        · (intro w hSw; (try dsimp only at hSw); go_simp; all_goals with_reducible rfl)
        try simp only [Act.put, List.setIfInBounds_toArray, List.set_cons_zero, List.set_cons_succ]
        refine held_yes (i := 22) (some 44) (v := ?_) rfl rfl (by kernel_rfl) (by kernel_rfl) (by kernel_rfl) (fun _ _ _ h => h) (by rfl) ?_ hHeld ?_
        rotate_left
        · (intro w hSw; (try dsimp only at hSw); go_simp; all_goals with_reducible rfl)
        try simp only [Act.put, List.setIfInBounds_toArray, List.set_cons_zero, List.set_cons_succ]
        refine held_yes (i := 23) (some 45) (v := ?_) rfl rfl (by kernel_rfl) (by kernel_rfl) (by kernel_rfl) (fun _ _ _ h => h) (by rfl) ?_ hHeld ?_
        rotate_left
        · (intro w hSw; (try dsimp only at hSw); go_simp; all_goals with_reducible rfl)
        try simp only [Act.put, List.setIfInBounds_toArray, List.set_cons_zero, List.set_cons_succ]
        refine wpAnyH_ready (rs := [24, 27]) (by kernel_rfl) (by simp) ?_
        refine (AllReadyH.cons rfl (fun K' hK' => ?_) (AllReadyH.cons rfl (fun K' hK' => ?_) AllReadyH.nil))
        · go_simp
          refine hK'.out _ _ ?_ (fun hHeld => ?_)
          · trivial
          clear hK' K'
          try dsimp only at hHeld
          try simp only [Act.put, List.setIfInBounds_toArray, List.set_cons_zero, List.set_cons_succ]
          refine wpAnyH_ready (rs := [25, 27]) (by kernel_rfl) (by simp) ?_
          refine (AllReadyH.cons rfl (fun K' hK' => ?_) (AllReadyH.cons rfl (fun K' hK' => ?_) AllReadyH.nil))
          · go_simp
            refine hK'.out _ _ ?_ (fun hHeld => ?_)
            · trivial
            clear hK' K'
            try dsimp only at hHeld
            try simp only [Act.put, List.setIfInBounds_toArray, List.set_cons_zero, List.set_cons_succ]
            refine held_yes (i := 26) (some 48) (v := ?_) rfl rfl (by kernel_rfl) (by kernel_rfl) (by kernel_rfl) (fun _ _ _ h => h) (by rfl) ?_ hHeld ?_
            rotate_left
            · (intro w hSw; (try dsimp only at hSw); go_simp; all_goals with_reducible rfl)
            try simp only [Act.put, List.setIfInBounds_toArray, List.set_cons_zero, List.set_cons_succ]
            refine wpAnyH_ready (rs := [27]) (by kernel_rfl) (by simp) ?_
            refine (AllReadyH.cons rfl (fun K' hK' => ?_) AllReadyH.nil)
            go_simp
            refine hK'.out _ _ ?_ (fun hHeld => ?_)
            · trivial
            clear hK' K'
            try dsimp only at hHeld
            try simp only [Act.put, List.setIfInBounds_toArray, List.set_cons_zero, List.set_cons_succ]
            refine wpAnyH_ready (rs := [28]) (by kernel_rfl) (by simp) ?_
            refine (AllReadyH.cons rfl (fun K' hK' => ?_) AllReadyH.nil)
            go_simp
            refine hK'.out _ _ ?_ (fun hHeld => ?_)
            · trivial
            clear hK' K'
            try dsimp only at hHeld
            try simp only [Act.put, List.setIfInBounds_toArray, List.set_cons_zero, List.set_cons_succ]
            refine wpAnyH_done (by kernel_rfl) ?_ _
            (go_wp2_with fail; go_meet; first | exact ⟨wr.heap.size, rfl, Blk.alloc (Blk.new wr 35 #[.int .i64 (nd : Int), .int .i64 (R : Int), .int .i64 (d : Int), .int .i64 (sl : Int), .string (abc k)]) _, Nat.le_refl _, ((box_below wr _).alloc (by simp) _).drew⟩ | exact ⟨wr.heap.size + 1, rfl, blk_two _ _ _, by omega, ((box_below wr _).alloc (by simp) _).drew⟩)
          · go_simp
            refine hK'.out _ _ ?_ (fun hHeld => ?_)
            · trivial
            clear hK' K'
            try dsimp only at hHeld
            try simp only [Act.put, List.setIfInBounds_toArray, List.set_cons_zero, List.set_cons_succ]
            refine wpAnyH_ready (rs := [25]) (by kernel_rfl) (by simp) ?_
            refine (AllReadyH.cons rfl (fun K' hK' => ?_) AllReadyH.nil)
            go_simp
            refine hK'.out _ _ ?_ (fun hHeld => ?_)
            · trivial
            clear hK' K'
            try dsimp only at hHeld
            try simp only [Act.put, List.setIfInBounds_toArray, List.set_cons_zero, List.set_cons_succ]
            refine held_yes (i := 26) (some 48) (v := ?_) rfl rfl (by kernel_rfl) (by kernel_rfl) (by kernel_rfl) (fun _ _ _ h => h) (by rfl) ?_ hHeld ?_
            rotate_left
            · (intro w hSw; (try dsimp only at hSw); go_simp; all_goals with_reducible rfl)
            try simp only [Act.put, List.setIfInBounds_toArray, List.set_cons_zero, List.set_cons_succ]
            refine wpAnyH_ready (rs := [28]) (by kernel_rfl) (by simp) ?_
            refine (AllReadyH.cons rfl (fun K' hK' => ?_) AllReadyH.nil)
            go_simp
            refine hK'.out _ _ ?_ (fun hHeld => ?_)
            · trivial
            clear hK' K'
            try dsimp only at hHeld
            try simp only [Act.put, List.setIfInBounds_toArray, List.set_cons_zero, List.set_cons_succ]
            refine wpAnyH_done (by kernel_rfl) ?_ _
            (go_wp2_with fail; go_meet; first | exact ⟨wr.heap.size, rfl, Blk.alloc (Blk.new wr 35 #[.int .i64 (nd : Int), .int .i64 (R : Int), .int .i64 (d : Int), .int .i64 (sl : Int), .string (abc k)]) _, Nat.le_refl _, ((box_below wr _).alloc (by simp) _).drew⟩ | exact ⟨wr.heap.size + 1, rfl, blk_two _ _ _, by omega, ((box_below wr _).alloc (by simp) _).drew⟩)
        · go_simp
          refine hK'.out _ _ ?_ (fun hHeld => ?_)
          · trivial
          clear hK' K'
          try dsimp only at hHeld
          try simp only [Act.put, List.setIfInBounds_toArray, List.set_cons_zero, List.set_cons_succ]
          refine wpAnyH_ready (rs := [24]) (by kernel_rfl) (by simp) ?_
          refine (AllReadyH.cons rfl (fun K' hK' => ?_) AllReadyH.nil)
          go_simp
          refine hK'.out _ _ ?_ (fun hHeld => ?_)
          · trivial
          clear hK' K'
          try dsimp only at hHeld
          try simp only [Act.put, List.setIfInBounds_toArray, List.set_cons_zero, List.set_cons_succ]
          refine wpAnyH_ready (rs := [25]) (by kernel_rfl) (by simp) ?_
          refine (AllReadyH.cons rfl (fun K' hK' => ?_) AllReadyH.nil)
          go_simp
          refine hK'.out _ _ ?_ (fun hHeld => ?_)
          · trivial
          clear hK' K'
          try dsimp only at hHeld
          try simp only [Act.put, List.setIfInBounds_toArray, List.set_cons_zero, List.set_cons_succ]
          refine held_yes (i := 26) (some 48) (v := ?_) rfl rfl (by kernel_rfl) (by kernel_rfl) (by kernel_rfl) (fun _ _ _ h => h) (by rfl) ?_ hHeld ?_
          rotate_left
          · (intro w hSw; (try dsimp only at hSw); go_simp; all_goals with_reducible rfl)
          try simp only [Act.put, List.setIfInBounds_toArray, List.set_cons_zero, List.set_cons_succ]
          refine wpAnyH_ready (rs := [28]) (by kernel_rfl) (by simp) ?_
          refine (AllReadyH.cons rfl (fun K' hK' => ?_) AllReadyH.nil)
          go_simp
          refine hK'.out _ _ ?_ (fun hHeld => ?_)
          · trivial
          clear hK' K'
          try dsimp only at hHeld
          try simp only [Act.put, List.setIfInBounds_toArray, List.set_cons_zero, List.set_cons_succ]
          refine wpAnyH_done (by kernel_rfl) ?_ _
          (go_wp2_with fail; go_meet; first | exact ⟨wr.heap.size, rfl, Blk.alloc (Blk.new wr 35 #[.int .i64 (nd : Int), .int .i64 (R : Int), .int .i64 (d : Int), .int .i64 (sl : Int), .string (abc k)]) _, Nat.le_refl _, ((box_below wr _).alloc (by simp) _).drew⟩ | exact ⟨wr.heap.size + 1, rfl, blk_two _ _ _, by omega, ((box_below wr _).alloc (by simp) _).drew⟩)
    case rest =>
    obtain ⟨bp, rfl, hkp, hbp, hb5⟩ := hcut
    obtain ⟨w5, rfl⟩ : ∃ w5 : World, w5 = wc := ⟨_, rfl⟩
    clear q0 h8 h512 h2048 hm1 hm2 hwa hwb hwc hwd hwe hwf hwg hrow1 hrow2 hrow3 hz16
    have ROW5 : Hid (VtRow w5 w.heap.size u5 L) := VtRow.below ROW.out hb5
    have B5 := Lib.hid (bchain B.out hb5)
    have KP := Lib.hid hkp
    have hbpw : w.heap.size ≤ bp := by have := B.out.size; omega
    have hown : ∀ g, u5.ownBlock = some g → g < bp := fun g hg => by have := (World.ownsRow.lt ROW.out g hg).2; omega
    clear ROW B hkp hbp hb5
    obtain ⟨Au, capu, rfl, hcu, hmu, hcellu⟩ := ROW5.out.at
    have HCU := Lib.hid hcellu
    have hmu2 : capu ≤ 9223372036854775807 := by unfold maxLen at hmu; omega
    clear hcellu hmu
    go_wp2_with fail
    go_loopg [51, 9] L.length (fun g c f wi => ∃ (j : Nat) (val : ByteArray) (ft : Bool), j ≤ L.length ∧ g = L.length - j ∧ c = .int .i64 j ∧ f = .bool ft ∧ Blk wi bp 35 #[.int .i64 (nd : Int), .int .i64 (R : Int), .int .i64 (d : Int), .int .i64 (sl : Int), .string val] ∧ InOk L nd R d sl j val ft ∧ Fr (S1 bp) w5 wi)
    case atStart => exact ⟨0, abc k, true, by omega, by omega, rfl, rfl, KP.out, InOk.zero hk3, Fr.refl _ _⟩
    case round =>
      obtain ⟨j, val, ft, hj, rfl, rfl, rfl, hkw, hin, hfr⟩ := hrel
      obtain ⟨wi, rfl⟩ : ∃ wi : World, wi = wr := ⟨_, rfl⟩
      have KW := Lib.hid hkw
      have INO := Lib.hid hin
      have F := Lib.hid hfr
      clear hkw hin hfr
      by_cases hjl : j < L.length
      case pos =>
        obtain ⟨bu, offu, rfl, hbu, hcc⟩ := HCU.out (by omega)
        obtain ⟨⟨ynd, yr, yd, ysl, yv⟩, hy⟩ : ∃ x, L[j]? = some x := ⟨_, List.getElem?_eq_getElem hjl⟩
        have HY := Lib.hid hy
        have hbne : bu ≠ bp := by have := hown bu rfl; omega
        obtain ⟨p0, p1, p2, p3, p4⟩ := hcc j _ hy
        simp only at p0 p1 p2 p3 p4
        have hF : ∀ o v, w5.cell? ⟨bu, o, none⟩ = some v → wi.cell? ⟨bu, o, none⟩ = some v := fun o v h => F.out.cell (p := ⟨bu, o, none⟩) (fun e => hbne e) h
        have p0 := hF _ _ p0
        have p1 := hF _ _ p1
        have p2 := hF _ _ p2
        have p3 := hF _ _ p3
        have p4 := hF _ _ p4
        have x2 := KW.out.cell (i := 3) (v := .int .i64 (sl : Int)) rfl
        clear hy hcc
        go_upto_region 10 with fail
        have bw := box_below wi (.cells #[.int .i64 ynd, .int .i64 yr, .int .i64 yd, .int .i64 ysl, .string yv] 35)
        have KY := Lib.hid (Blk.new wi 35 #[.int .i64 ynd, .int .i64 yr, .int .i64 yd, .int .i64 ysl, .string yv])
        have K2 := Lib.hid (KW.out.fr (Fr.of_below bw : Fr S0 _ _) (fun h => h))
        have F2 := Lib.hid (F.out.trans (Fr.of_below bw))
        have p4b := bcell bw p4
        obtain ⟨W2, hW2⟩ : ∃ W2, W2 = (wi.alloc (.cells #[.int .i64 ynd, .int .i64 yr, .int .i64 yd, .int .i64 ysl, .string yv] 35)) := ⟨_, rfl⟩
        rw [← hW2] at bw KY K2 F2 p4b ⊢
        obtain ⟨by', hby⟩ : ∃ b', b' = wi.heap.size := ⟨_, rfl⟩
        rw [← hby] at KY ⊢
        have hbyp : ¬ by' = bp := by have := KW.out.lt; omega
        clear hW2 bw p0 p1 p2 p3 p4 KW F hby x2 hF
        have y0 := KY.out.cell (i := 0) (v := .int .i64 ynd) rfl
        have y1 := KY.out.cell (i := 1) (v := .int .i64 yr) rfl
        have y2 := KY.out.cell (i := 2) (v := .int .i64 yd) rfl
        have y3 := KY.out.cell (i := 3) (v := .int .i64 ysl) rfl
        have x0 := K2.out.cell (i := 0) (v := .int .i64 (nd : Int)) rfl
        have x1 := K2.out.cell (i := 1) (v := .int .i64 (R : Int)) rfl
        have x2 := K2.out.cell (i := 2) (v := .int .i64 (d : Int)) rfl
        have x3 := K2.out.cell (i := 3) (v := .int .i64 (sl : Int)) rfl
        cases hs : (ysl != (sl : Int)) with
        | true =>
          have hsn : Hid (ysl ≠ (sl : Int)) := by simpa [Hid] using hs
          go_wp2_with fail
          go_roundg (L.length - (j + 1))
          case measure => omega
          case rel => exact ⟨j + 1, val, ft, by omega, rfl, by go_num, rfl, K2.out, INO.out.skip HY.out hsn.out, F2.out⟩
        | false =>
          have hse : Hid (ysl = (sl : Int)) := by simpa [Hid] using hs
          go_upto_region 11 with fail
          obtain ⟨q, hq⟩ : ∃ q, (yr == (R : Int) && yd == (d : Int)) = q := ⟨_, rfl⟩
          have hEz : ∀ w : World, (Op.equalIn 10000 24 (.agg #[.int .i64 yr, .int .i64 yd]) (.agg #[.int .i64 (R : Int), .int .i64 (d : Int)])).run Tryz.prog w = .ok q w := fun w => by rw [eqBal, hq]
          have HQ := Lib.hid hq
          have hGq := eqGBal
          clear hq
          obtain ⟨fb, hfb⟩ : ∃ fb, fitB ⟨ynd, yr, yd, ysl, yv⟩ nd R d = fb := ⟨_, rfl⟩
          have HFB := Lib.hid hfb
          clear hfb
          have z4 := K2.out.frozen 4
          have x4 := K2.out.cell (i := 4) (v := .string val) rfl
          go_upto_if 65 with fail
          go_cut [] (fun wx => ∃ val', Blk wx bp 35 #[.int .i64 (nd : Int), .int .i64 (R : Int), .int .i64 (d : Int), .int .i64 (sl : Int), .string val'] ∧ InOk L nd R d sl (j + 1) val' (ft && fb) ∧ Fr (S1 bp) w5 wx ∧ Blk wx by' 35 #[.int .i64 ynd, .int .i64 yr, .int .i64 yd, .int .i64 ysl, .string yv])
          case first =>
            cases q with
            | true =>
              have hfe : fb = true := by
                rw [← HFB.out]
                unfold fitB
                rw [HQ.out]
                simp
              have hin2 := INO.out.same OK.out HY.out hse.out HQ.out
              rw [HFB.out] at hin2
              have IN2 := Lib.hid hin2
              have KS : Hid (Blk (W2.setCell ⟨bp, 4, none⟩ (.string yv)) bp 35 #[.int .i64 (nd : Int), .int .i64 (R : Int), .int .i64 (d : Int), .int .i64 (sl : Int), .string yv]) := K2.out.set 4 (.string yv)
              have FS := Lib.hid (F2.out.setCell (p := ⟨bp, 4, none⟩) (.inl rfl) (.string yv))
              have YS := Lib.hid (KY.out.setOther (p := ⟨bp, 4, none⟩) hbyp (.string yv))
              clear hin2 hfe
              go_wp2_with fail
              go_meet
              exact ⟨yv, KS.out, IN2.out, FS.out, YS.out⟩
            | false =>
              have hin2 := INO.out.other HY.out HQ.out
              rw [HFB.out] at hin2
              have IN2 := Lib.hid hin2
              clear hin2 z4 p4b
              go_wp2_with fail
              go_meet
              exact ⟨val, K2.out, IN2.out, F2.out, KY.out⟩
          case rest =>
          obtain ⟨val', hk', hin', hfr', hky'⟩ := hcut
          obtain ⟨w6, rfl⟩ : ∃ w6 : World, w6 = wc := ⟨_, rfl⟩
          have K6 := Lib.hid hk'
          have IN6 := Lib.hid hin'
          have F6 := Lib.hid hfr'
          have KY6 := Lib.hid hky'
          clear y0 y1 y2 y3 x0 x1 x2 x3 x4 hk' hin' hfr' hky' p4b z4 K2 F2 KY
          have y0 := KY6.out.cell (i := 0) (v := .int .i64 ynd) rfl
          have y1 := KY6.out.cell (i := 1) (v := .int .i64 yr) rfl
          have y2 := KY6.out.cell (i := 2) (v := .int .i64 yd) rfl
          have x0 := K6.out.cell (i := 0) (v := .int .i64 (nd : Int)) rfl
          have x1 := K6.out.cell (i := 1) (v := .int .i64 (R : Int)) rfl
          have x2 := K6.out.cell (i := 2) (v := .int .i64 (d : Int)) rfl
          go_upto_region 13 with fail
          cases ft with
          | false =>
            go_wp2_with fail
            go_roundg (L.length - (j + 1))
            case measure => omega
            case rel => exact ⟨j + 1, val', _, by omega, rfl, by go_num, rfl, K6.out, IN6.out, F6.out⟩
          | true =>
            cases hn1 : (ynd != (nd : Int)) with
            | true =>
              have e : fb = true := by rw [← HFB.out]; unfold fitB; rw [show (ynd == (nd : Int)) = false by simpa using hn1]; rfl
              subst e
              go_wp2_with fail
              go_roundg (L.length - (j + 1))
              case measure => omega
              case rel => exact ⟨j + 1, val', _, by omega, rfl, by go_num, rfl, K6.out, IN6.out, F6.out⟩
            | false =>
              have hn2 : Hid ((ynd == (nd : Int)) = true) := by simpa [Hid] using hn1
              cases q with
              | true =>
                have e : fb = true := by rw [← HFB.out]; unfold fitB; rw [HQ.out]; simp
                subst e
                go_wp2_with fail
                go_roundg (L.length - (j + 1))
                case measure => omega
                case rel => exact ⟨j + 1, val', _, by omega, rfl, by go_num, rfl, K6.out, IN6.out, F6.out⟩
              | false =>
                cases hr1 : decide (yr < (R : Int)) with
                | true =>
                  have e : fb = true := by rw [← HFB.out]; unfold fitB; rw [hn2.out, HQ.out, hr1]; rfl
                  subst e
                  go_wp2_with fail
                  go_roundg (L.length - (j + 1))
                  case measure => omega
                  case rel => exact ⟨j + 1, val', _, by omega, rfl, by go_num, rfl, K6.out, IN6.out, F6.out⟩
                | false =>
                  cases hr2 : (yr == (R : Int)) with
                  | false =>
                    have e : fb = false := by rw [← HFB.out]; unfold fitB; rw [hn2.out, HQ.out, hr1, hr2]; rfl
                    subst e
                    go_wp2_with fail
                    go_roundg (L.length - (j + 1))
                    case measure => omega
                    case rel => exact ⟨j + 1, val', _, by omega, rfl, by go_num, rfl, K6.out, IN6.out, F6.out⟩
                  | true =>
                    cases hd1 : decide (yd < (d : Int)) with
                    | true =>
                      have e : fb = true := by rw [← HFB.out]; unfold fitB; rw [hn2.out, HQ.out, hr1, hr2, hd1]; rfl
                      subst e
                      go_wp2_with fail
                      go_roundg (L.length - (j + 1))
                      case measure => omega
                      case rel => exact ⟨j + 1, val', _, by omega, rfl, by go_num, rfl, K6.out, IN6.out, F6.out⟩
                    | false =>
                      have e : fb = false := by rw [← HFB.out]; unfold fitB; rw [hn2.out, HQ.out, hr1, hr2, hd1]; rfl
                      subst e
                      go_wp2_with fail
                      go_roundg (L.length - (j + 1))
                      case measure => omega
                      case rel => exact ⟨j + 1, val', _, by omega, rfl, by go_num, rfl, K6.out, IN6.out, F6.out⟩
      case neg =>
        have e : j = L.length := by omega
        subst e
        cases ft with
        | false =>
          go_wp2_with fail
          go_roundg (N - (i + 1))
          case measure => omega
          case rel =>
            have f0 := Fr.refl (S1 bp) w5
            exact ⟨i + 1, L, by omega, rfl, by go_num, VtRow.fr ROW5.out F.out (fun g hg e => by have := hown g hg; have e : g = bp := e; omega), OK.out, by omega, Fr.upB B5.out F.out (fun i e => by have e : i = bp := e; omega)⟩
        | true =>
          have x0 := KW.out.cell (i := 0) (v := .int .i64 (nd : Int)) rfl
          have x1 := KW.out.cell (i := 1) (v := .int .i64 (R : Int)) rfl
          have x2 := KW.out.cell (i := 2) (v := .int .i64 (d : Int)) rfl
          have x3 := KW.out.cell (i := 3) (v := .int .i64 (sl : Int)) rfl
          have x4 := KW.out.cell (i := 4) (v := .string val) rfl
          go_upto_region 16 with fail
          have ROW6 := Lib.hid (VtRow.fr ROW5.out F.out (fun g hg e => by have := hown g hg; have e : g = bp := e; omega))
          have B6 := Lib.hid (Fr.upB B5.out F.out (fun i e => by have e : i = bp := e; omega))
          have hown6 : ∀ g, (Value.slice Au L.length capu).ownBlock = some g → w.heap.size ≤ g ∧ g < wi.heap.size := fun g hg => World.ownsRow.lt ROW6.out g hg
          have hL40 : L.length < 40 := by omega
          have hw5 := F.out.size
          go_wp2_with (first
            | (at_builtin; refine wpList_append_own_at _ rfl _ _ 22 rfl w.heap.size 35 i0 (vtV ⟨0, 0, 0, 0, ⟨#[]⟩⟩) 5 48 Tryz.underlying22 HI.out HZ0.out HZ1.out HZ2.out rfl (by decide) _ _ _ rfl (World.ownsRow.alloc ROW6.out _) ⟨wi.heap.size, 0, none⟩ 1 1 [.int .i64 (nd : Int), .int .i64 (R : Int), .int .i64 (d : Int), .int .i64 (sl : Int), .string val] rfl rfl (cells_new _ _ _) (by simp [Value.oneCell']) (by unfold maxLen; omega) (by omega) (by simp; have := B6.out.size; omega) ?_; intro v9 w9 hown' hgrow _ hoa; have HOWN := Lib.hid hown'; have HGR := Lib.hid hgrow; clear hown' hgrow hoa))
          have bl9 := box_below wi (.cells #[.int .i64 (nd : Int), .int .i64 (R : Int), .int .i64 (d : Int), .int .i64 (sl : Int), .string val] 35)
          have f9 : Fr (fun i => (Value.slice Au L.length capu).ownBlock = some i) (wi.alloc (.cells #[.int .i64 (nd : Int), .int .i64 (R : Int), .int .i64 (d : Int), .int .i64 (sl : Int), .string val] 35)) w9 := Fr.of_grown HGR.out (fun i e => e)
          have C9 := Lib.hid (Fr.upB (bchain B6.out bl9) f9 (fun i e => by have := hown6 i e; omega))
          have RW9 : Hid (VtRow w9 w.heap.size v9 (L ++ [⟨nd, R, d, sl, val⟩])) := by
            unfold VtRow Hid
            rw [List.length_append]
            have e1 : flat encVt (L ++ [⟨nd, R, d, sl, val⟩]) = flat encVt L ++ [.int .i64 (nd : Int), .int .i64 (R : Int), .int .i64 (d : Int), .int .i64 (sl : Int), .string val] := by unfold flat; rw [List.flatMap_append]; rfl
            rw [e1]
            exact HOWN.out
          have OK9 := Lib.hid (OK.out.snoc hn hL40 hndn hR5 hdn hsl3 INO.out)
          go_roundg (N - (i + 1))
          case measure => omega
          case rel => exact ⟨i + 1, _, by omega, rfl, by go_num, RW9.out, OK9.out, by simp; omega, C9.out⟩
end Go.Proofs.YthkdmpalhdifbaaGreatDoor
