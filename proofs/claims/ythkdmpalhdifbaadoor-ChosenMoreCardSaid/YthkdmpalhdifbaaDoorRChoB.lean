/- Package skaldref25: Text. -/
import Derived.Test.YthkdmpalhdifbaaDoorRChoA
import Derived.Lib.SlBytesConst
set_option linter.unusedVariables false
set_option linter.unusedSimpArgs false
namespace Go.Proofs.YthkdmpalhdifbaaDoor
open Go.RowKit Go.Maps

/-- The text of the reference. -/
def rtxt (x : Vt) : ByteArray := itoaS x.nd ++ ⟨#[32]⟩ ++ itoaS x.r ++ ⟨#[46]⟩ ++ itoaS x.d ++ ⟨#[32]⟩ ++ itoaS x.sl ++ ⟨#[32]⟩ ++ hexS x.v
theorem rtxt_eq (x : Vt) : rtxt x = vtxt x := by
  unfold rtxt vtxt btxt
  simp only [ByteArray.append_assoc]
set_option maxRecDepth 100000 in
set_option maxHeartbeats 2000000 in
theorem rtext_any (nd r d sl : Int) (v : ByteArray) (w : World) (hv : v.size ≤ 9223372036854775807) :
    Calls Tryd.prog 10 #[.agg #[.int .i64 nd, .int .i64 r, .int .i64 d, .int .i64 sl, .string v]] w fun e w' =>
      e = .returned (if aloneB ⟨nd, r, d, sl, v⟩ 7 = true then .tuple #[.string (vtxt ⟨nd, r, d, sl, v⟩), .int .i64 0] else .tuple #[.string ⟨#[]⟩, .int .i64 2]) ∧ Below w.heap.size w w' := by
  have hb := box_below w (.cells #[.int .i64 nd, .int .i64 r, .int .i64 d, .int .i64 sl, .string v] 31)
  have kb := Blk.new w 31 #[.int .i64 nd, .int .i64 r, .int .i64 d, .int .i64 sl, .string v]
  have HB := Lib.hid hb
  have KB := Lib.hid kb
  clear hb kb
  cases ha : aloneB ⟨nd, r, d, sl, v⟩ 7 with
  | false =>
    have ha2 : ralB ⟨nd, r, d, sl, v⟩ 7 = false := (ral_eq (n := 7) _ (by omega)).trans ha
    rw [if_neg (by simp)]
    go_enter Tryd.func10, Tryd.ntmps10
    go_wp2_with (go_at_call 29; refine (ralone_any _ _ _ _ _ _ _).mono ?_; rw [ha2]; rintro e w2 ⟨rfl, b2⟩; have B2 := Lib.hid (bchain HB.out b2); clear b2)
    go_returns
    exact ⟨rfl, B2.out⟩
  | true =>
    rw [if_pos rfl]
    have ha2 : ralB ⟨nd, r, d, sl, v⟩ 7 = true := (ral_eq (n := 7) _ (by omega)).trans ha
    obtain ⟨a1, a2, a3, a4, a5, a6⟩ := alone_bd7 ha
    have HA := Lib.hid ha2
    clear ha a6 ha2
    go_enter Tryd.func10, Tryd.ntmps10
    go_upto_region 3 with (go_at_call 29; refine (ralone_any _ _ _ _ _ _ _).mono ?_; rw [HA.out]; rintro e w2 ⟨rfl, b2⟩; have B2 := Lib.hid (bchain HB.out b2); have K2 := Lib.hid (KB.out.fr (Fr.of_below b2 : Fr S0 _ _) (fun h => h)); clear b2)
    obtain ⟨g, hg⟩ : ∃ g, g = w.heap.size := ⟨_, rfl⟩
    rw [← hg] at K2 ⊢
    have hgw : w.heap.size ≤ g := by omega
    have hgl := K2.out.lt
    clear hg KB HB HA
    obtain ⟨i0, hi, hz0, hz1, hz2⟩ := info_parts info_u8
    have HI := Lib.hid hi
    have HZ0 := Lib.hid hz0
    have HZ1 := Lib.hid hz1
    have HZ2 := Lib.hid hz2
    clear hi hz0 hz1 hz2
    go_wp2_with fail
    go_loopg [5, 6] v.size (fun gg c5 c6 wr => ∃ (i : Nat) (vo : Value), i ≤ v.size ∧ gg = v.size - i ∧ c6 = .int .i64 i ∧ vo = c5 ∧ wr.ownsRow (g + 1) 5 1 vo (2 * i) (u8V (hexL (v.data.toList.take i))) ∧ Blk wr g 31 #[.int .i64 nd, .int .i64 r, .int .i64 d, .int .i64 sl, .string v] ∧ Below w.heap.size w wr)
    case atStart => exact ⟨0, _, by omega, rfl, rfl, rfl, World.ownsRow_nil _ _ _ _, K2.out, B2.out⟩
    case round =>
      clear K2 B2
      obtain ⟨i, vo, hi, rfl, rfl, rfl, hrow, hk, hB⟩ := hrel
      have ROW := Lib.hid hrow
      have KB := Lib.hid hk
      have B := Lib.hid hB
      have hkl := hk.lt
      have hvo : ∀ b, vo.ownBlock = some b → g + 1 ≤ b ∧ b < wr.heap.size := fun b hb => World.ownsRow.lt hrow b hb
      have y4 := hk.cell (i := 4) (v := .string v) rfl
      clear hrow hk hB
      by_cases hlt : i < v.size
      · obtain ⟨c, hc⟩ : ∃ c : UInt8, c = v.data.toList.getD i 0 := ⟨_, rfl⟩
        obtain ⟨k, hk⟩ : ∃ k : Nat, k = c.toNat := ⟨_, rfl⟩
        have hk256 : k < 256 := by rw [hk]; exact c.toNat_lt
        have hcv : ∀ h, v[i]'h = c := fun h => by
          rw [hc, List.getD_eq_getElem?_getD, List.getElem?_eq_getElem (by simpa using hlt)]
          rfl
        have hck : c.toNat = k := hk.symm
        have HKC := Lib.hid hk
        have HCC := Lib.hid hc
        clear hk hc
        go_upto_region 8 with fail
        obtain ⟨a, ha⟩ : ∃ a : Nat, a = k / 16 := ⟨_, rfl⟩
        obtain ⟨b, hb⟩ : ∃ b : Nat, b = k % 16 := ⟨_, rfl⟩
        have hq1 : (k : Int) / 16 = (a : Int) := by omega
        have hq2 : (k : Int).tmod 16 = (b : Int) := by rw [Int.tmod_eq_emod_of_nonneg (by omega)]; omega
        have hw1 : IntKind.u8.wrap (a : Int) = (a : Int) := by
          have : ∀ a : Fin 16, IntKind.u8.wrap ((a.val : Nat) : Int) = ((a.val : Nat) : Int) := by decide +kernel
          exact this ⟨a, by omega⟩
        have ha16 : a < 16 := by omega
        have hb16 : b < 16 := by omega
        have ha16' : (a : Int) < 16 := by omega
        have hb16' : (b : Int) < 16 := by omega
        obtain ⟨e1, he1⟩ : ∃ e, e = dig a := ⟨_, rfl⟩
        obtain ⟨e2, he2⟩ : ∃ e, e = dig b := ⟨_, rfl⟩
        have hd1 : ∀ h, (⟨#[48, 49, 50, 51, 52, 53, 54, 55, 56, 57, 97, 98, 99, 100, 101, 102]⟩ : ByteArray)[a]'h = e1 := fun h => by rw [he1]; exact digG ⟨a, ha16⟩ h
        have hd2 : ∀ h, (⟨#[48, 49, 50, 51, 52, 53, 54, 55, 56, 57, 97, 98, 99, 100, 101, 102]⟩ : ByteArray)[b]'h = e2 := fun h => by rw [he2]; exact digG ⟨b, hb16⟩ h
        have HSN : Hid (u8V (hexL (v.data.toList.take i)) ++ [.int .u8 (e1.toNat : Int), .int .u8 (e2.toNat : Int)] = u8V (hexL (v.data.toList.take (i + 1)))) := by
          have h1 : v.data.toList.take (i + 1) = v.data.toList.take i ++ [c] := by
            rw [HCC.out, List.take_add_one, List.getD_eq_getElem?_getD, List.getElem?_eq_getElem (by simpa using hlt)]
            rfl
          rw [Hid, h1, hexL_snoc, he1, he2, ha, hb, HKC.out]
          simp [u8V]
        have hb9 : Below wr.heap.size wr (wr.alloc (.cells #[.int .u8 (e1.toNat : Int), .int .u8 (e2.toNat : Int)] 5)).drew := ((Below.refl _ _).alloc (Nat.le_refl _) _).drew
        have ROW9 := Lib.hid (World.ownsRow.kept ROW.out (bel_grown hb9) (by by_cases h : vo.ownBlock = none; exact .inl h; exact .inr h))
        have KB9 := Lib.hid (KB.out.fr (Fr.of_below hb9 : Fr S0 _ _) (fun h => h))
        have B9 := Lib.hid (bchain B.out hb9)
        have p9 := bcell hb9 y4
        have hsz9 : (wr.alloc (.cells #[.int .u8 (e1.toNat : Int), .int .u8 (e2.toNat : Int)] 5)).drew.heap.size = wr.heap.size + 1 := by simp
        have HSZ9 := Lib.hid hsz9
        clear he1 he2 ha hb hb9 hsz9 HCC HKC
        refine wp_region_held_drew (S := (fun W => W.cell? ⟨g, 4, none⟩ = some (.string v))) (by kernel_rfl) ?_ (fun hHeld => ?_)
        · exact y4
        try dsimp only at hHeld
        refine held_yes (i := 0) (some 17) (v := ?_) rfl rfl (by kernel_rfl) (by kernel_rfl) (by kernel_rfl) (fun _ _ _ h => h) (by rfl) ?_ hHeld ?_
        rotate_left
        · (intro w hSw; (try dsimp only at hSw); go_simp; all_goals with_reducible rfl)
        try simp only [Act.put, List.setIfInBounds_toArray, List.set_cons_zero, List.set_cons_succ]
        refine held_yes (i := 1) (some 18) (v := ?_) rfl rfl (by kernel_rfl) (by kernel_rfl) (by kernel_rfl) (fun _ _ _ h => h) (by rfl) ?_ hHeld ?_
        rotate_left
        · (intro w hSw; (try dsimp only at hSw); go_simp; all_goals with_reducible rfl)
        try simp only [Act.put, List.setIfInBounds_toArray, List.set_cons_zero, List.set_cons_succ]
        refine held_yes (i := 2) (some 19) (v := ?_) rfl rfl (by kernel_rfl) (by kernel_rfl) (by kernel_rfl) (fun _ _ _ h => h) (by rfl) ?_ hHeld ?_
        rotate_left
        · (intro w hSw; (try dsimp only at hSw); go_simp; all_goals with_reducible rfl)
        try simp only [Act.put, List.setIfInBounds_toArray, List.set_cons_zero, List.set_cons_succ]
        refine held_yes (i := 3) (some 20) (v := ?_) rfl rfl (by kernel_rfl) (by kernel_rfl) (by kernel_rfl) (fun _ _ _ h => h) (by rfl) ?_ hHeld ?_
        rotate_left
        · (intro w hSw; (try dsimp only at hSw); go_simp; all_goals with_reducible rfl)
        try simp only [Act.put, List.setIfInBounds_toArray, List.set_cons_zero, List.set_cons_succ]
        refine held_yes (i := 4) (some 21) (v := ?_) rfl rfl (by kernel_rfl) (by kernel_rfl) (by kernel_rfl) (fun _ _ _ h => h) (by rfl) ?_ hHeld ?_
        rotate_left
        · (intro w hSw; (try dsimp only at hSw); go_simp; all_goals with_reducible rfl)
        try simp only [Act.put, List.setIfInBounds_toArray, List.set_cons_zero, List.set_cons_succ]
        refine held_yes (i := 5) (some 22) (v := ?_) rfl rfl (by kernel_rfl) (by kernel_rfl) (by kernel_rfl) (fun _ _ _ h => h) (by rfl) ?_ hHeld ?_
        rotate_left
        · (intro w hSw; (try dsimp only at hSw); go_simp; all_goals with_reducible rfl)
        try simp only [Act.put, List.setIfInBounds_toArray, List.set_cons_zero, List.set_cons_succ]
        refine held_yes (i := 6) (some 23) (v := ?_) rfl rfl (by kernel_rfl) (by kernel_rfl) (by kernel_rfl) (fun _ _ _ h => h) (by rfl) ?_ hHeld ?_
        rotate_left
        · (intro w hSw; (try dsimp only at hSw); go_simp; all_goals with_reducible rfl)
        try simp only [Act.put, List.setIfInBounds_toArray, List.set_cons_zero, List.set_cons_succ]
        refine held_yes (i := 7) (some 24) (v := ?_) rfl rfl (by kernel_rfl) (by kernel_rfl) (by kernel_rfl) (fun _ _ _ h => h) (by rfl) ?_ hHeld ?_
        rotate_left
        · (intro w hSw; (try dsimp only at hSw); go_simp; all_goals with_reducible rfl)
        try simp only [Act.put, List.setIfInBounds_toArray, List.set_cons_zero, List.set_cons_succ]
        refine held_yes (i := 8) (some 25) (v := ?_) rfl rfl (by kernel_rfl) (by kernel_rfl) (by kernel_rfl) (fun _ _ _ h => h) (by rfl) ?_ hHeld ?_
        rotate_left
        · (intro w hSw; (try dsimp only at hSw); go_simp; all_goals with_reducible rfl)
        try simp only [Act.put, List.setIfInBounds_toArray, List.set_cons_zero, List.set_cons_succ]
        refine held_yes (i := 9) (some 26) (v := ?_) rfl rfl (by kernel_rfl) (by kernel_rfl) (by kernel_rfl) (fun _ _ _ h => h) (by rfl) ?_ hHeld ?_
        rotate_left
        · (intro w hSw; (try dsimp only at hSw); go_simp; all_goals with_reducible rfl)
        try simp only [Act.put, List.setIfInBounds_toArray, List.set_cons_zero, List.set_cons_succ]
        refine held_yes (i := 10) (some 27) (v := ?_) rfl rfl (by kernel_rfl) (by kernel_rfl) (by kernel_rfl) (fun _ _ _ h => h) (by rfl) ?_ hHeld ?_
        rotate_left
        · (intro w hSw; (try dsimp only at hSw); go_simp; all_goals with_reducible rfl)
        try simp only [Act.put, List.setIfInBounds_toArray, List.set_cons_zero, List.set_cons_succ]
        refine held_yes (i := 11) (some 28) (v := ?_) rfl rfl (by kernel_rfl) (by kernel_rfl) (by kernel_rfl) (fun _ _ _ h => h) (by rfl) ?_ hHeld ?_
        rotate_left
        · (intro w hSw; (try dsimp only at hSw); go_simp; all_goals with_reducible rfl)
        try simp only [Act.put, List.setIfInBounds_toArray, List.set_cons_zero, List.set_cons_succ]
        refine held_yes (i := 12) (some 29) (v := ?_) rfl rfl (by kernel_rfl) (by kernel_rfl) (by kernel_rfl) (fun _ _ _ h => h) (by rfl) ?_ hHeld ?_
        rotate_left
        · (intro w hSw; (try dsimp only at hSw); go_simp; all_goals with_reducible rfl)
        try simp only [Act.put, List.setIfInBounds_toArray, List.set_cons_zero, List.set_cons_succ]
        refine held_yes (i := 13) (some 30) (v := ?_) rfl rfl (by kernel_rfl) (by kernel_rfl) (by kernel_rfl) (fun _ _ _ h => h) (by rfl) ?_ hHeld ?_
        rotate_left
        · (intro w hSw; (try dsimp only at hSw); go_simp; all_goals with_reducible rfl)
        try simp only [Act.put, List.setIfInBounds_toArray, List.set_cons_zero, List.set_cons_succ]
        refine held_yes (i := 14) (some 31) (v := ?_) rfl rfl (by kernel_rfl) (by kernel_rfl) (by kernel_rfl) (fun _ _ _ h => h) (by rfl) ?_ hHeld ?_
        rotate_left
        · (intro w hSw; (try dsimp only at hSw); go_simp; all_goals with_reducible rfl)
        try simp only [Act.put, List.setIfInBounds_toArray, List.set_cons_zero, List.set_cons_succ]
        refine wpAnyH_ready (rs := [15]) (by kernel_rfl) (by simp) ?_
        refine (AllReadyH.cons rfl (fun K' hK' => ?_) AllReadyH.nil)
        go_simp
        refine hK'.out _ _ ?_ (fun hHeld => ?_)
        · assumption
        clear hK' K'
        try dsimp only at hHeld
        try simp only [Act.put, List.setIfInBounds_toArray, List.set_cons_zero, List.set_cons_succ]
        refine wpAnyH_ready (rs := [16]) (by kernel_rfl) (by simp) ?_
        refine (AllReadyH.cons rfl (fun K' hK' => ?_) AllReadyH.nil)
        (refine step_append_lies _ rfl _ _ 63 rfl (g + 1) 5 i0 (.int .u8 0) 1 1 Tryd.underlying63 HI.out HZ0.out HZ1.out HZ2.out rfl (by decide) vo _ _ rfl ROW9.out ⟨wr.heap.size, 0, none⟩ 2 2 [.int .u8 (e1.toNat : Int), .int .u8 (e2.toNat : Int)] rfl rfl (fun j u hu => cells_newT wr _ _ j u hu) (by simp [Value.oneCell']) (by decide) (by unfold maxLen; omega) (by omega) (by rw [HSZ9.out]; omega) _ rfl ?_; intro g2 cap2 wa hra hga hoa hla; change K' (Act.put _ (some 33) _) _; have HRA := Lib.hid hra; have HGA := Lib.hid hga; have fa0 : Fr (fun j => vo.ownBlock = some j) _ wa := Fr.of_grown hga (fun i e => e); have pa := fa0.cell (p := ⟨g, 4, none⟩) (fun e => by have := hvo _ e; have e2 : (⟨g, 4, none⟩ : Addr).block = g := rfl; omega) p9; clear hra hga hoa fa0)
        refine hK'.out _ _ ?_ (fun hHeld => ?_)
        · assumption
        clear hK' K'
        try dsimp only at hHeld
        try simp only [Act.put, List.setIfInBounds_toArray, List.set_cons_zero, List.set_cons_succ]
        refine held_yes (i := 17) (some 5) (v := ?_) rfl rfl (by kernel_rfl) (by kernel_rfl) (by kernel_rfl) (fun _ _ _ h => h) (by rfl) ?_ hHeld ?_
        rotate_left
        · (intro w hSw; (try dsimp only at hSw); go_simp; all_goals with_reducible rfl)
        try simp only [Act.put, List.setIfInBounds_toArray, List.set_cons_zero, List.set_cons_succ]
        refine wpAnyH_done (by kernel_rfl) ?_ _
        have fa : Fr (fun j => vo.ownBlock = some j) _ wa := Fr.of_grown HGA.out (fun i e => e)
        have HRB : Hid (wa.ownsRow (g + 1) 5 1 (.slice (some ⟨g2, 0, none⟩) (2 * (i + 1)) cap2) (2 * (i + 1)) (u8V (hexL (v.data.toList.take (i + 1))))) := by rw [Hid, ← HSN.out]; exact HRA.out
        have KBa := Lib.hid (KB9.out.fr fa (fun e => by have := hvo _ e; omega))
        have Ba := Lib.hid (Fr.upB B9.out fa (fun i e => by have := hvo _ e; omega))
        clear HRA HGA fa HSN ROW9 KB9 B9 HSZ9 hd1 hd2 hcv p9
        go_wp2_with fail
        go_roundg (v.size - (i + 1))
        case measure => omega
        case rel => exact ⟨i + 1, _, by omega, rfl, by go_num, rfl, HRB.out, KBa.out, Ba.out⟩
      · have e : i = v.size := by omega
        subst e
        have hfull : v.data.toList.take v.size = v.data.toList := List.take_of_length_le (by simp)
        rw [hfull] at ROW
        have hwz := B.out.size
        have hvs : ∃ A cap, vo = .slice A (2 * v.size) cap := by
          rcases ROW.out.2 with ⟨h1, h2⟩ | ⟨g, cap, cur, h1, _⟩
          · exact ⟨none, 0, by rw [h1, h2]⟩
          · exact ⟨_, cap, h1⟩
        obtain ⟨Av, capv, rfl⟩ := hvs
        go_upto_if 36 with fail
        go_cut [5] (fun c6 wx => ∃ g6 cap6, c6 = .slice (some ⟨g6, 0, none⟩) (hexS v).size cap6 ∧ Lib.Bytes wx g6 0 (hexS v) ∧ Blk wx g 31 #[.int .i64 nd, .int .i64 r, .int .i64 d, .int .i64 sl, .string v] ∧ Below w.heap.size w wx)
        case first =>
          by_cases hv0 : v.size = 0
          · have HV0 := Lib.hid hv0
            have e1 : decide (2 * (v.size : Int) = 0) = true := by simp; omega
            have e1' : (2 * (v.size : Int) == 0) = true := by simp; omega
            have e2 : hexS v = sOf [45] := by unfold hexS; rw [if_pos hv0]; rfl
            have E2 := Lib.hid e2
            clear e2 hfull hv0
            have hcc := Lib.run_convert_bytes_const (P := Tryd.prog) wr 63 5 #[.int .u8 45] 1 1 Tryd.underlying63 Tryd.underlying5
            go_wp2_with fail
            go_meet
            have bl := box_below wr (.cells #[.int .u8 45] 5 (1, 2))
            refine ⟨wr.heap.size, 1, by rw [hexS_size1 HV0.out], ?_, KB.out.fr (Fr.of_below bl : Fr S0 _ _) (fun h => h), bchain B.out bl⟩
            rw [E2.out]
            intro i hi
            have hi0 : i = 0 := by have : (sOf [45]).size = 1 := rfl; omega
            subst hi0
            exact (World.cell?_alloc_mark wr #[.int .u8 45] 5 (1, 2) 0).trans rfl
          · have e1 : ¬ 2 * (v.size : Int) = 0 := by omega
            have e2 : hexS v = sOf (hexL v.data.toList) := by unfold hexS; rw [if_neg hv0]
            have e3 : (hexS v).size = 2 * v.size := hexS_size hv0
            have E2 := Lib.hid e2
            have E3 := Lib.hid e3
            have hAv : ∃ g6, Av = some ⟨g6, 0, none⟩ := by
              rcases ROW.out.2 with ⟨h1, h2⟩ | ⟨g, cap, cur, h1, _⟩
              · omega
              · cases h1; exact ⟨_, rfl⟩
            obtain ⟨g6, rfl⟩ := hAv
            clear e2 e3
            go_wp2_with fail
            go_meet
            refine ⟨g6, capv, by rw [E3.out], ?_, KB.out, B.out⟩
            rw [E2.out]
            exact (row_bytes ROW.out).2
        case rest =>
        clear ROW KB B hfull hwz hvo y4
        obtain ⟨g6, cap6, rfl, hby, hk6, hb6⟩ := hcut
        obtain ⟨w6, rfl⟩ : ∃ w6 : World, w6 = wc := ⟨_, rfl⟩
        have BY6 := Lib.hid hby
        have B6 := Lib.hid hb6
        have q0 := hk6.cell (i := 0) (v := .int .i64 nd) rfl
        have q1 := hk6.cell (i := 1) (v := .int .i64 r) rfl
        have q2 := hk6.cell (i := 2) (v := .int .i64 d) rfl
        have q3 := hk6.cell (i := 3) (v := .int .i64 sl) rfl
        have hs6 : (hexS v).size ≤ 131073 := by
          by_cases h0 : v.size = 0
          · rw [hexS_size1 h0]; omega
          · rw [hexS_size h0]; omega
        have s1 := itoaS_size (x := nd) (by omega) (by omega)
        have s2 := itoaS_size (x := r) (by omega) (by omega)
        have s3 := itoaS_size (x := d) (by omega) (by omega)
        have s4 := itoaS_size (x := sl) (by omega) (by omega)
        have n1 : ¬ 9223372036854775807 < (itoaS nd).size + 1 := by omega
        have n2 : ¬ 9223372036854775807 < (itoaS nd).size + 1 + (itoaS r).size := by omega
        have n3 : ¬ 9223372036854775807 < (itoaS nd).size + 1 + (itoaS r).size + 1 := by omega
        have n4 : ¬ 9223372036854775807 < (itoaS nd).size + 1 + (itoaS r).size + 1 + (itoaS d).size := by omega
        have n5 : ¬ 9223372036854775807 < (itoaS nd).size + 1 + (itoaS r).size + 1 + (itoaS d).size + 1 := by omega
        have n6 : ¬ 9223372036854775807 < (itoaS nd).size + 1 + (itoaS r).size + 1 + (itoaS d).size + 1 + (itoaS sl).size := by omega
        have n7 : ¬ 9223372036854775807 < (itoaS nd).size + 1 + (itoaS r).size + 1 + (itoaS d).size + 1 + (itoaS sl).size + 1 := by omega
        have n8 : ¬ 9223372036854775807 < (itoaS nd).size + 1 + (itoaS r).size + 1 + (itoaS d).size + 1 + (itoaS sl).size + 1 + (hexS v).size := by omega
        have hcv : ∀ W, Lib.Bytes W g6 0 (hexS v) → (convert 63 9 (.slice (some ⟨g6, 0, none⟩) (hexS v).size cap6)).run Tryd.prog W = .ok (.string (hexS v)) W := fun W hW => Lib.run_convert_whole W _ _ _ Tryd.underlying63 Tryd.underlying5 Tryd.underlying9 g6 0 (hexS v) hW cap6
        have HCV := Lib.hid hcv
        have hD : ∀ x : Int, 0 ≤ x → x ≤ 9223372036854775807 → ∀ w, Calls Tryd.prog 30 #[.int .i64 x] w fun e w' => e = .returned (.string (itoaS x)) ∧ Below w.heap.size w w' := fun x h0 h1 w => digits_any (x.toNat + 1) x w h0 (by omega) h1
        have HD := Lib.hid hD
        have D1 := Lib.hid (hD nd (by omega) (by omega))
        have D2 := Lib.hid (hD r (by omega) (by omega))
        have D3 := Lib.hid (hD d (by omega) (by omega))
        have D4 := Lib.hid (hD sl (by omega) (by omega))
        have RT : Hid (rtxt ⟨nd, r, d, sl, v⟩ = vtxt ⟨nd, r, d, sl, v⟩) := rtxt_eq _
        clear hby hb6 hk6 s1 s2 s3 s4 hcv hs6 hD HD
        go_upto_region 11 with fail
        refine wp_region_held_drew (S := (fun W => W.cell? ⟨g, 0, none⟩ = some (.int .i64 nd) ∧ W.cell? ⟨g, 1, none⟩ = some (.int .i64 r) ∧ W.cell? ⟨g, 2, none⟩ = some (.int .i64 d) ∧ W.cell? ⟨g, 3, none⟩ = some (.int .i64 sl) ∧ (convert 63 9 (.slice (some ⟨g6, 0, none⟩) (hexS v).size cap6)).run Tryd.prog W = .ok (.string (hexS v)) W)) (by kernel_rfl) ?_ (fun hHeld => ?_)
        · exact ⟨q0, q1, q2, q3, HCV.out _ BY6.out⟩
        try dsimp only at hHeld
        refine held_yes (i := 0) (some 39) (v := ?_) rfl rfl (by kernel_rfl) (by kernel_rfl) (by kernel_rfl) (fun _ _ _ h => h) (by rfl) ?_ hHeld ?_
        rotate_left
        · (intro w hSw; (try dsimp only at hSw); go_simp; all_goals with_reducible rfl)
        try simp only [Act.put, List.setIfInBounds_toArray, List.set_cons_zero, List.set_cons_succ]
        refine held_yes (i := 1) (some 40) (v := ?_) rfl rfl (by kernel_rfl) (by kernel_rfl) (by kernel_rfl) (fun _ _ _ h => h) (by rfl) ?_ hHeld ?_
        rotate_left
        · (intro w hSw; (try dsimp only at hSw); go_simp; all_goals with_reducible rfl)
        try simp only [Act.put, List.setIfInBounds_toArray, List.set_cons_zero, List.set_cons_succ]
        refine held_yes (i := 4) (some 43) (v := ?_) rfl rfl (by kernel_rfl) (by kernel_rfl) (by kernel_rfl) (fun _ _ _ h => h) (by rfl) ?_ hHeld ?_
        rotate_left
        · (intro w hSw; (try dsimp only at hSw); go_simp; all_goals with_reducible rfl)
        try simp only [Act.put, List.setIfInBounds_toArray, List.set_cons_zero, List.set_cons_succ]
        refine held_yes (i := 5) (some 44) (v := ?_) rfl rfl (by kernel_rfl) (by kernel_rfl) (by kernel_rfl) (fun _ _ _ h => h) (by rfl) ?_ hHeld ?_
        rotate_left
        · (intro w hSw; (try dsimp only at hSw); go_simp; all_goals with_reducible rfl)
        try simp only [Act.put, List.setIfInBounds_toArray, List.set_cons_zero, List.set_cons_succ]
        refine held_yes (i := 6) (some 45) (v := ?_) rfl rfl (by kernel_rfl) (by kernel_rfl) (by kernel_rfl) (fun _ _ _ h => h) (by rfl) ?_ hHeld ?_
        rotate_left
        · (intro w hSw; (try dsimp only at hSw); go_simp; all_goals with_reducible rfl)
        try simp only [Act.put, List.setIfInBounds_toArray, List.set_cons_zero, List.set_cons_succ]
        refine held_yes (i := 10) (some 49) (v := ?_) rfl rfl (by kernel_rfl) (by kernel_rfl) (by kernel_rfl) (fun _ _ _ h => h) (by rfl) ?_ hHeld ?_
        rotate_left
        · (intro w hSw; (try dsimp only at hSw); go_simp; all_goals with_reducible rfl)
        try simp only [Act.put, List.setIfInBounds_toArray, List.set_cons_zero, List.set_cons_succ]
        refine held_yes (i := 11) (some 50) (v := ?_) rfl rfl (by kernel_rfl) (by kernel_rfl) (by kernel_rfl) (fun _ _ _ h => h) (by rfl) ?_ hHeld ?_
        rotate_left
        · (intro w hSw; (try dsimp only at hSw); go_simp; all_goals with_reducible rfl)
        try simp only [Act.put, List.setIfInBounds_toArray, List.set_cons_zero, List.set_cons_succ]
        refine held_yes (i := 12) (some 51) (v := ?_) rfl rfl (by kernel_rfl) (by kernel_rfl) (by kernel_rfl) (fun _ _ _ h => h) (by rfl) ?_ hHeld ?_
        rotate_left
        · (intro w hSw; (try dsimp only at hSw); go_simp; all_goals with_reducible rfl)
        try simp only [Act.put, List.setIfInBounds_toArray, List.set_cons_zero, List.set_cons_succ]
        refine held_yes (i := 16) (some 55) (v := ?_) rfl rfl (by kernel_rfl) (by kernel_rfl) (by kernel_rfl) (fun _ _ _ h => h) (by rfl) ?_ hHeld ?_
        rotate_left
        · (intro w hSw; (try dsimp only at hSw); go_simp; all_goals with_reducible rfl)
        try simp only [Act.put, List.setIfInBounds_toArray, List.set_cons_zero, List.set_cons_succ]
        refine held_yes (i := 17) (some 56) (v := ?_) rfl rfl (by kernel_rfl) (by kernel_rfl) (by kernel_rfl) (fun _ _ _ h => h) (by rfl) ?_ hHeld ?_
        rotate_left
        · (intro w hSw; (try dsimp only at hSw); go_simp; all_goals with_reducible rfl)
        try simp only [Act.put, List.setIfInBounds_toArray, List.set_cons_zero, List.set_cons_succ]
        refine held_yes (i := 21) (some 60) (v := ?_) rfl rfl (by kernel_rfl) (by kernel_rfl) (by kernel_rfl) (fun _ _ _ h => h) (by rfl) ?_ hHeld ?_
        rotate_left
        · (intro w hSw; (try dsimp only at hSw); go_simp; all_goals with_reducible rfl)
        try simp only [Act.put, List.setIfInBounds_toArray, List.set_cons_zero, List.set_cons_succ]
        refine held_yes (i := 22) (some 61) (v := ?_) rfl rfl (by kernel_rfl) (by kernel_rfl) (by kernel_rfl) (fun _ _ _ h => h) (by rfl) ?_ hHeld ?_
        rotate_left
        · (intro w hSw; (try dsimp only at hSw); go_simp; all_goals with_reducible rfl)
        try simp only [Act.put, List.setIfInBounds_toArray, List.set_cons_zero, List.set_cons_succ]
        refine wpAnyH_ready (rs := [2]) (by kernel_rfl) (by simp) ?_
        refine (AllReadyH.cons rfl (fun K' hK' => ?_) AllReadyH.nil)
        go_simp
        (go_at_call 30; refine (D1.out _).mono ?_; rintro e w7 ⟨rfl, b7⟩; have b7' := bdrew2 b7; have f0 := bcell b7' q0; have f1 := bcell b7' q1; have f2 := bcell b7' q2; have f3 := bcell b7' q3; have B7 := Lib.hid (bchain B6.out b7'); have BY7 := Lib.hid (Bytes_below BY6.out b7'); have cv7 := HCV.out w7 BY7.out; clear b7 b7')
        go_wp2_with fail
        refine hK'.out _ _ ?_ (fun hHeld => ?_)
        · exact ⟨by assumption, by assumption, by assumption, by assumption, by assumption⟩
        clear hK' K'
        try dsimp only at hHeld
        try simp only [Act.put, List.setIfInBounds_toArray, List.set_cons_zero, List.set_cons_succ]
        refine held_yes (i := 3) (some 42) (v := ?_) rfl rfl (by kernel_rfl) (by kernel_rfl) (by kernel_rfl) (fun _ _ _ h => h) (by rfl) ?_ hHeld ?_
        rotate_left
        · (intro w hSw; (try dsimp only at hSw); go_simp; all_goals with_reducible rfl)
        try simp only [Act.put, List.setIfInBounds_toArray, List.set_cons_zero, List.set_cons_succ]
        refine wpAnyH_ready (rs := [7]) (by kernel_rfl) (by simp) ?_
        refine (AllReadyH.cons rfl (fun K' hK' => ?_) AllReadyH.nil)
        go_simp
        (go_at_call 30; refine (D2.out _).mono ?_; rintro e w8 ⟨rfl, b8⟩; have h0 := bcell b8 f0; have h1 := bcell b8 f1; have h2 := bcell b8 f2; have h3 := bcell b8 f3; have B8 := Lib.hid (bchain B7.out b8); have BY8 := Lib.hid (Bytes_below BY7.out b8); have cv8 := HCV.out w8 BY8.out; clear b8)
        go_wp2_with fail
        refine hK'.out _ _ ?_ (fun hHeld => ?_)
        · exact ⟨by assumption, by assumption, by assumption, by assumption, by assumption⟩
        clear hK' K'
        try dsimp only at hHeld
        try simp only [Act.put, List.setIfInBounds_toArray, List.set_cons_zero, List.set_cons_succ]
        refine held_yes (i := 8) (some 47) (v := ?_) rfl rfl (by kernel_rfl) (by kernel_rfl) (by kernel_rfl) (fun _ _ _ h => h) (by rfl) ?_ hHeld ?_
        rotate_left
        · (intro w hSw; (try dsimp only at hSw); go_simp; all_goals with_reducible rfl)
        try simp only [Act.put, List.setIfInBounds_toArray, List.set_cons_zero, List.set_cons_succ]
        refine held_yes (i := 9) (some 48) (v := ?_) rfl rfl (by kernel_rfl) (by kernel_rfl) (by kernel_rfl) (fun _ _ _ h => h) (by rfl) ?_ hHeld ?_
        rotate_left
        · (intro w hSw; (try dsimp only at hSw); go_simp; all_goals with_reducible rfl)
        try simp only [Act.put, List.setIfInBounds_toArray, List.set_cons_zero, List.set_cons_succ]
        refine wpAnyH_ready (rs := [13]) (by kernel_rfl) (by simp) ?_
        refine (AllReadyH.cons rfl (fun K' hK' => ?_) AllReadyH.nil)
        go_simp
        (go_at_call 30; refine (D3.out _).mono ?_; rintro e w9 ⟨rfl, b9⟩; have j0 := bcell b9 h0; have j1 := bcell b9 h1; have j2 := bcell b9 h2; have j3 := bcell b9 h3; have B9 := Lib.hid (bchain B8.out b9); have BY9 := Lib.hid (Bytes_below BY8.out b9); have cv9 := HCV.out w9 BY9.out; clear b9)
        go_wp2_with fail
        refine hK'.out _ _ ?_ (fun hHeld => ?_)
        · exact ⟨by assumption, by assumption, by assumption, by assumption, by assumption⟩
        clear hK' K'
        try dsimp only at hHeld
        try simp only [Act.put, List.setIfInBounds_toArray, List.set_cons_zero, List.set_cons_succ]
        refine held_yes (i := 14) (some 53) (v := ?_) rfl rfl (by kernel_rfl) (by kernel_rfl) (by kernel_rfl) (fun _ _ _ h => h) (by rfl) ?_ hHeld ?_
        rotate_left
        · (intro w hSw; (try dsimp only at hSw); go_simp; all_goals with_reducible rfl)
        try simp only [Act.put, List.setIfInBounds_toArray, List.set_cons_zero, List.set_cons_succ]
        refine held_yes (i := 15) (some 54) (v := ?_) rfl rfl (by kernel_rfl) (by kernel_rfl) (by kernel_rfl) (fun _ _ _ h => h) (by rfl) ?_ hHeld ?_
        rotate_left
        · (intro w hSw; (try dsimp only at hSw); go_simp; all_goals with_reducible rfl)
        try simp only [Act.put, List.setIfInBounds_toArray, List.set_cons_zero, List.set_cons_succ]
        refine wpAnyH_ready (rs := [18]) (by kernel_rfl) (by simp) ?_
        refine (AllReadyH.cons rfl (fun K' hK' => ?_) AllReadyH.nil)
        go_simp
        (go_at_call 30; refine (D4.out _).mono ?_; rintro e w10 ⟨rfl, b10⟩; have k0 := bcell b10 j0; have k1 := bcell b10 j1; have k2 := bcell b10 j2; have k3 := bcell b10 j3; have B10 := Lib.hid (bchain B9.out b10); have BY10 := Lib.hid (Bytes_below BY9.out b10); have cv10 := HCV.out w10 BY10.out; clear b10)
        go_wp2_with fail
        refine hK'.out _ _ ?_ (fun hHeld => ?_)
        · exact ⟨by assumption, by assumption, by assumption, by assumption, by assumption⟩
        clear hK' K'
        try dsimp only at hHeld
        try simp only [Act.put, List.setIfInBounds_toArray, List.set_cons_zero, List.set_cons_succ]
        refine held_yes (i := 19) (some 58) (v := ?_) rfl rfl (by kernel_rfl) (by kernel_rfl) (by kernel_rfl) (fun _ _ _ h => h) (by rfl) ?_ hHeld ?_
        rotate_left
        · (intro w hSw; (try dsimp only at hSw); go_simp; all_goals with_reducible rfl)
        try simp only [Act.put, List.setIfInBounds_toArray, List.set_cons_zero, List.set_cons_succ]
        refine held_yes (i := 20) (some 59) (v := ?_) rfl rfl (by kernel_rfl) (by kernel_rfl) (by kernel_rfl) (fun _ _ _ h => h) (by rfl) ?_ hHeld ?_
        rotate_left
        · (intro w hSw; (try dsimp only at hSw); go_simp; all_goals with_reducible rfl)
        try simp only [Act.put, List.setIfInBounds_toArray, List.set_cons_zero, List.set_cons_succ]
        refine held_yes (i := 23) (some 62) (v := ?_) rfl rfl (by kernel_rfl) (by kernel_rfl) (by kernel_rfl) (fun _ _ _ h => h) (by rfl) ?_ hHeld ?_
        rotate_left
        · (intro w hSw; (try dsimp only at hSw); go_simp; all_goals with_reducible rfl)
        try simp only [Act.put, List.setIfInBounds_toArray, List.set_cons_zero, List.set_cons_succ]
        refine held_yes (i := 24) (some 2) (v := ?_) rfl rfl (by kernel_rfl) (by kernel_rfl) (by kernel_rfl) (fun _ _ _ h => h) (by rfl) ?_ hHeld ?_
        rotate_left
        · (intro w hSw; (try dsimp only at hSw); go_simp; all_goals with_reducible rfl)
        try simp only [Act.put, List.setIfInBounds_toArray, List.set_cons_zero, List.set_cons_succ]
        refine held_yes (i := 25) (some 3) (v := ?_) rfl rfl (by kernel_rfl) (by kernel_rfl) (by kernel_rfl) (fun _ _ _ h => h) (by rfl) ?_ hHeld ?_
        rotate_left
        · (intro w hSw; (try dsimp only at hSw); go_simp; all_goals with_reducible rfl)
        try simp only [Act.put, List.setIfInBounds_toArray, List.set_cons_zero, List.set_cons_succ]
        refine wpAnyH_done (by kernel_rfl) ?_ _
        go_wp2_with fail
        go_returns
        exact ⟨by rw [← RT.out]; rfl, B10.out⟩
end Go.Proofs.YthkdmpalhdifbaaDoor
