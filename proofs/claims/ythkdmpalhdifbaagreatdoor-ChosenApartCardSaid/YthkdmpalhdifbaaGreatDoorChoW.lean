/- skaldlaw25.works. -/
import Derived.Test.YthkdmpalhdifbaaGreatDoorChoK
import Derived.Test.YthkdmpalhdifbaaGreatDoorChoT
set_option linter.unusedVariables false
set_option linter.unusedSimpArgs false
namespace Go.Proofs.YthkdmpalhdifbaaGreatDoor
open Go.RowKit Go.Maps Go.Shelf Go.Sort

def encVt (x : Vt) : List Value := [.int .i64 x.nd, .int .i64 x.r, .int .i64 x.d, .int .i64 x.sl, .string x.v]
/-- The slice v is the votes L, in a block of the call's own. -/
def VtRow (w : World) (lo : Nat) (v : Value) (L : List Vt) : Prop := w.ownsRow lo 35 5 v L.length (flat encVt L)
theorem VtRow.at {w : World} {lo : Nat} {v : Value} {L : List Vt} (h : VtRow w lo v L) : VotesIn w v L := by
  rcases h.2 with ⟨rfl, hn⟩ | ⟨g, cap, cur, rfl, hb, hg, hle, hcap, hsz, htake⟩
  · exact ⟨none, 0, by rw [hn], by omega, by unfold maxLen; omega, fun h0 => by omega⟩
  · refine ⟨_, cap, rfl, hle, hcap, fun h0 => ⟨g, 0, rfl, (Array.getElem?_eq_some_iff.1 hg).1, fun i x hx => ?_⟩⟩
    have hB : Blk w g 35 cur := hg
    have hil : i < L.length := (List.getElem?_eq_some_iff.1 hx).1
    have hc : ∀ j, j < 5 → ∀ u, (encVt x)[j]? = some u → w.cell? ⟨g, i * 5 + j, none⟩ = some u := fun j hj u hu => by
      refine hB.cell ?_
      have h1 := flat_at (enc := encVt) (k := 5) (fun x => rfl) L i x hx j hj
      rw [hu, ← htake, List.getElem?_take, if_pos (by omega)] at h1
      rw [← Array.getElem?_toList]
      exact h1
    simp only [Nat.zero_add]
    exact ⟨hc 0 (by omega) _ rfl, hc 1 (by omega) _ rfl, hc 2 (by omega) _ rfl, hc 3 (by omega) _ rfl, hc 4 (by omega) _ rfl⟩
theorem VtRow.below {w w' : World} {lo : Nat} {v : Value} {L : List Vt} (h : VtRow w lo v L) (hb : Below w.heap.size w w') : VtRow w' lo v L :=
  World.ownsRow.kept h (grown_of hb none) (by by_cases h : v.ownBlock = none; exact .inl h; exact .inr h)

def exL : List Vt := [⟨0, 1, 0, 5, ⟨#[120]⟩⟩, ⟨1, 1, 0, 5, ⟨#[120]⟩⟩, ⟨2, 2, 1, 5, ⟨#[120]⟩⟩, ⟨2, 1, 0, 6, ⟨#[121]⟩⟩, ⟨1, 2, 1, 6, ⟨#[122]⟩⟩]
def exM : List Vt := exL ++ [⟨0, 3, 0, 5, ⟨#[113]⟩⟩, ⟨1, 3, 0, 5, ⟨#[113]⟩⟩]
def exA : GA := [((6, 2, 1), (⟨#[122]⟩, 2)), ((6, 1, 0), (⟨#[121]⟩, 4)), ((5, 2, 1), (⟨#[120]⟩, 4)), ((5, 1, 0), (⟨#[120]⟩, 3))]
theorem ex_gather : (gwalk 3 [] [] 0 exL).1 = some exA := by decide +kernel
theorem ex_c5 : chosenF 3 exL 5 = (⟨#[120]⟩, true, 0) := by decide +kernel
theorem ex_c6 : chosenF 3 exL 6 = (⟨#[]⟩, false, 0) := by decide +kernel
theorem ex_s1 : safeL 3 exA 5 ⟨#[120]⟩ (sortB (belowL exA 5 (3, 0))).reverse = true := by decide +kernel
theorem ex_s2 : safeL 3 exA 5 ⟨#[119]⟩ (sortB (belowL exA 5 (3, 0))).reverse = false := by decide +kernel
theorem ex_s3 : safeL 3 exA 6 ⟨#[121]⟩ (sortB (belowL exA 6 (3, 0))).reverse = true := by decide +kernel
theorem ex_a : agreeF 3 exM = (false, 5, 0) := by decide +kernel
theorem ex_al : aloneB ⟨1, 2, 1, 6, ⟨#[122]⟩⟩ 7 = true := by decide +kernel
theorem itoa_dig (k : Nat) (h : k < 10) : itoaS (k : Int) = ⟨#[UInt8.ofNat (48 + k)]⟩ := by
  unfold itoaS Lib.itoa
  rw [if_neg (by omega), Int.toNat_natCast, Lib.decDigits_one h]
  rfl
theorem ex_t : vtxt ⟨1, 2, 1, 6, ⟨#[122]⟩⟩ = ⟨#[49, 32, 50, 46, 49, 32, 54, 32, 55, 97]⟩ := by
  unfold vtxt btxt
  simp only
  rw [show (1 : Int) = ((1 : Nat) : Int) from rfl, show (2 : Int) = ((2 : Nat) : Int) from rfl, show (6 : Int) = ((6 : Nat) : Int) from rfl, itoa_dig 1 (by decide), itoa_dig 2 (by decide), itoa_dig 6 (by decide)]
  decide +kernel
theorem itoaK_small : ItoaK (fun _ => True) (fun x => 0 ≤ x ∧ x < 100) where
  size x h := by
    unfold itoaS Lib.itoa
    rw [if_neg (by omega), sOf_size]
    by_cases h1 : x.toNat < 10
    · rw [Lib.decDigits_one h1]; simp
    · rw [Lib.decDigits_two h1 (by omega)]; simp
  keep _ _ _ _ := trivial
  run x w h _ := by
    obtain ⟨i, rfl⟩ : ∃ i : Nat, x = (i : Int) := ⟨x.toNat, by omega⟩
    refine (Tryz.strconv_Itoa_small i (by omega) w).mono ?_
    rintro e w' ⟨rfl, rfl⟩
    refine ⟨?_, Below.refl _ _⟩
    unfold itoaS Lib.itoa
    rw [if_neg (by omega), Int.toNat_natCast]
    rfl

set_option maxRecDepth 100000 in
set_option maxHeartbeats 2000000 in
theorem example_any (w : World) : Calls Tryz.prog 31 #[] w fun e w' => ∃ v, e = .returned v ∧ VtRow w' w.heap.size v exL ∧ Below w.heap.size w w' := by
  go_enter Tryz.func31, Tryz.ntmps31
  go_wp2_with fail
  go_returns
  exact ⟨_, rfl, ⟨rfl, .inr ⟨_, _, _, rfl, by omega, blk_at _ _ (sz_alloc _ (sz_alloc _ rfl)), by decide, by unfold maxLen; decide, rfl, rfl⟩⟩, bchain (bchain (box_below w _) (box_below _ _)) (box_below _ _)⟩
theorem info_vt : (Tryz.prog.info? 35).map (fun i => (i.zero, i.size, i.bytes)) = some (some (vtV ⟨0, 0, 0, 0, ⟨#[]⟩⟩), 5, 48) := by kernel_rfl

set_option maxRecDepth 100000 in
set_option maxHeartbeats 4000000 in
theorem works_any (w : World) : Calls Tryz.prog 8 #[] w fun e w' => e = .returned (.bool true) ∧ Below w.heap.size w w' := by
  obtain ⟨i0, hi, hz0, hz1, hz2⟩ := info_parts info_vt
  have HI := Lib.hid hi
  have HZ0 := Lib.hid hz0
  have HZ1 := Lib.hid hz1
  have HZ2 := Lib.hid hz2
  clear hi hz0 hz1 hz2
  go_enter Tryz.func8, Tryz.ntmps8
  go_upto_region 2 with (go_at_call 31; refine (example_any _).mono ?_; rintro e w1 ⟨v, rfl, h1, b1⟩; have H1 := Lib.hid h1; have B1 := Lib.hid b1; clear h1 b1)
  have bl := box_below w1 (.cells #[.int .i64 3, .int .i64 0] 24)
  have K2 := Lib.hid (Blk.new w1 24 #[.int .i64 3, .int .i64 0])
  have H2 := Lib.hid (H1.out.below bl)
  have B2 := Lib.hid (bchain B1.out bl)
  have hvo : ∀ g, v.ownBlock = some g → w.heap.size ≤ g ∧ g < w1.heap.size := fun g hg => World.ownsRow.lt H1.out g hg
  generalize (w1.alloc (.cells #[.int .i64 3, .int .i64 0] 24)) = w2 at *
  obtain ⟨bt, hbt⟩ : ∃ bt, bt = w1.heap.size := ⟨_, rfl⟩
  rw [← hbt] at K2 ⊢
  have hbw : w1.heap.size ≤ bt := by omega
  clear H1 B1 bl hbt
  go_upto_region 3 with (go_at_call 17; refine (chosen_any 3 _ exL 5 _ H2.out.at (by omega) (by decide)).mono ?_; rw [ex_c5]; rintro e w3 ⟨rfl, b3⟩; have B3 := Lib.hid b3; clear b3)
  have H3 := Lib.hid (H2.out.below B3.out)
  have K3 := Lib.hid (K2.out.fr (Fr.of_below B3.out : Fr S0 _ _) (fun h => h))
  have C3 := Lib.hid (bchain B2.out B3.out)
  have z3 := B3.out.size
  clear H2 K2 B2 B3
  go_upto_region 4 with (go_at_call 17; refine (chosen_any 3 _ exL 6 _ H3.out.at (by omega) (by decide)).mono ?_; rw [ex_c6]; rintro e w4 ⟨rfl, b4⟩; have B4 := Lib.hid b4; clear b4)
  have H4 := Lib.hid (H3.out.below B4.out)
  have K4 := Lib.hid (K3.out.fr (Fr.of_below B4.out : Fr S0 _ _) (fun h => h))
  have C4 := Lib.hid (bchain C3.out B4.out)
  clear H3 K3 C3 B4
  have y0 := K4.out.cell (i := 0) (v := .int .i64 3) rfl
  have y1 := K4.out.cell (i := 1) (v := .int .i64 0) rfl
  go_upto_region 5 with (go_at_call 10; refine (safe_main 3 _ exL exA 3 0 5 ⟨#[120]⟩ _ H4.out.at (by omega) (by decide) ex_gather (by decide) (by decide) (by decide)).mono ?_; rw [ex_s1]; rintro e w5 ⟨rfl, b5⟩; have B5 := Lib.hid b5; clear b5)
  have H5 := Lib.hid (H4.out.below B5.out)
  have K5 := Lib.hid (K4.out.fr (Fr.of_below B5.out : Fr S0 _ _) (fun h => h))
  have C5 := Lib.hid (bchain C4.out B5.out)
  clear H4 K4 C4 B5 y0 y1
  have y0 := K5.out.cell (i := 0) (v := .int .i64 3) rfl
  have y1 := K5.out.cell (i := 1) (v := .int .i64 0) rfl
  go_upto_region 6 with (go_at_call 10; refine (safe_main 3 _ exL exA 3 0 5 ⟨#[119]⟩ _ H5.out.at (by omega) (by decide) ex_gather (by decide) (by decide) (by decide)).mono ?_; rw [ex_s2]; rintro e w6 ⟨rfl, b6⟩; have B6 := Lib.hid b6; clear b6)
  have H6 := Lib.hid (H5.out.below B6.out)
  have K6 := Lib.hid (K5.out.fr (Fr.of_below B6.out : Fr S0 _ _) (fun h => h))
  have C6 := Lib.hid (bchain C5.out B6.out)
  clear H5 K5 C5 B6 y0 y1
  have y0 := K6.out.cell (i := 0) (v := .int .i64 3) rfl
  have y1 := K6.out.cell (i := 1) (v := .int .i64 0) rfl
  go_upto_region 7 with (go_at_call 10; refine (safe_main 3 _ exL exA 3 0 6 ⟨#[121]⟩ _ H6.out.at (by omega) (by decide) ex_gather (by decide) (by decide) (by decide)).mono ?_; rw [ex_s3]; rintro e w7 ⟨rfl, b7⟩; have B7 := Lib.hid b7; clear b7)
  have H7 := Lib.hid (H6.out.below B7.out)
  have K7 := Lib.hid (K6.out.fr (Fr.of_below B7.out : Fr S0 _ _) (fun h => h))
  have C7 := Lib.hid (bchain C6.out B7.out)
  clear H6 K6 C6 B7 y0 y1
  have hrow := H7.out
  obtain ⟨Av, capv, rfl, hle, hmx, hcc⟩ := hrow.at
  obtain ⟨bv, off, rfl, hbv, hcells⟩ := hcc (by decide)
  obtain ⟨q0, q1, q2, q3, q4⟩ := hcells 4 ⟨1, 2, 1, 6, ⟨#[122]⟩⟩ rfl
  simp only at q0 q1 q2 q3 q4
  have hlen : exL.length = 5 := rfl
  rw [hlen] at hle ⊢
  have hoff : off = 0 := by
    rcases hrow.2 with ⟨h0, _⟩ | ⟨g, cap, cur, h0, _⟩
    · cases h0
    · cases h0; rfl
  subst hoff
  have HROW := Lib.hid hrow
  clear hrow hcc hcells H7
  go_upto_region 8 with (go_at_call 32; refine (text_any itoaK_small 1 2 1 6 ⟨#[122]⟩ _ trivial (fun _ => by omega)).mono ?_; rw [if_pos ex_al, ex_t]; rintro e w8 ⟨rfl, b8⟩; have B8 := Lib.hid b8; clear b8)
  have HR8 : Hid (VtRow w8 w.heap.size (.slice (some ⟨bv, 0, none⟩) 5 capv) exL) := VtRow.below HROW.out B8.out
  have K8 := Lib.hid (K7.out.fr (Fr.of_below B8.out : Fr S0 _ _) (fun h => h))
  have C8 := Lib.hid (bchain C7.out B8.out)
  have hbv2 := hvo bv rfl
  clear HROW K7 C7 B8 q0 q1 q2 q3 q4
  have y0 := K8.out.cell (i := 0) (v := .int .i64 3) rfl
  have y1 := K8.out.cell (i := 1) (v := .int .i64 0) rfl
  have hc8 := C8.out.size
  go_upto_region 9 with (first
    | (at_builtin; refine wpList_append_own_at _ rfl _ _ 22 rfl w.heap.size 35 i0 (vtV ⟨0, 0, 0, 0, ⟨#[]⟩⟩) 5 48 Tryz.underlying22 HI.out HZ0.out HZ1.out HZ2.out rfl (by decide) _ _ _ rfl (World.ownsRow.alloc HR8.out _) ⟨w8.heap.size, 0, none⟩ 2 2 [.int .i64 0, .int .i64 3, .int .i64 0, .int .i64 5, .string ⟨#[113]⟩, .int .i64 1, .int .i64 3, .int .i64 0, .int .i64 5, .string ⟨#[113]⟩] rfl rfl (cells_new _ _ _) (by simp [Value.oneCell']) (by unfold maxLen; decide) (by decide) (by simp; omega) ?_; intro v9 w9 hown' hgrow _ hoa; have HOWN := Lib.hid hown'; have HGR := Lib.hid hgrow; clear hown' hgrow hoa))
  have bl9 := box_below w8 (.cells #[.int .i64 0, .int .i64 3, .int .i64 0, .int .i64 5, .string ⟨#[113]⟩, .int .i64 1, .int .i64 3, .int .i64 0, .int .i64 5, .string ⟨#[113]⟩] 35)
  have f9 : Fr (S1 bv) (w8.alloc (.cells #[.int .i64 0, .int .i64 3, .int .i64 0, .int .i64 5, .string ⟨#[113]⟩, .int .i64 1, .int .i64 3, .int .i64 0, .int .i64 5, .string ⟨#[113]⟩] 35)) w9 := Fr.of_grown HGR.out (fun i e => by cases e; rfl)
  have C9 := Lib.hid (Fr.upB (bchain C8.out bl9) f9 (fun i e => by have e : i = bv := e; omega))
  have HM : Hid (VtRow w9 w.heap.size v9 exM) := HOWN.out
  clear HR8 K8 C8 y0 y1 bl9 f9 HOWN HGR
  go_upto_region 10 with (go_at_call 21; refine (agree_any 3 _ exM _ HM.out.at (by omega) (by decide)).mono ?_; rw [ex_a]; rintro e w10 ⟨rfl, b10⟩; have C10 := Lib.hid (bchain C9.out b10); clear b10)
  go_wp2_with fail
  go_returns
  exact ⟨rfl, C10.out⟩
end Go.Proofs.YthkdmpalhdifbaaGreatDoor
