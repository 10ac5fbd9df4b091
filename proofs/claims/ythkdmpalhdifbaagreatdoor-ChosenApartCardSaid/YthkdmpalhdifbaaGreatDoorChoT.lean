/- Package chosen: Text, over whatever strconv.Itoa does. -/
import Derived.Test.YthkdmpalhdifbaaGreatDoorChoA
import Derived.Test.YthkdmpalhdifbaaGreatDoorQSize
import Derived.Lib.ItoaNum
import Derived.Lib.ConvBytes
import Derived.Lib.SlBytesRow
import Derived.Maps.AppendAt
import Derived.Deep.AppendLies
import Derived.Deep.DeepMust
import Derived.Deep.RegionHeld3
import Derived.Deep.DeepCutAuto
import Derived.Deep.CutBlock
import Derived.Deep.LoopGhost
set_option linter.unusedVariables false
set_option linter.unusedSimpArgs false
namespace Go.Proofs.YthkdmpalhdifbaaGreatDoor
open Go.RowKit Go.Maps

def sOf (l : List UInt8) : ByteArray := ⟨l.toArray⟩
def itoaS (x : Int) : ByteArray := sOf (Lib.itoa x)
/-- What strconv.Itoa does at numbers of R, in worlds of T. -/
structure ItoaK (T : World → Prop) (R : Int → Prop) : Prop where
  size : ∀ x, R x → (itoaS x).size ≤ 20
  keep : ∀ w w', T w → Below w.heap.size w w' → T w'
  run : ∀ x w, R x → T w → Calls Tryz.prog 58 #[.int .i64 x] w fun e w' => e = .returned (.string (itoaS x)) ∧ Below w.heap.size w w'
def btxt (r d : Int) : ByteArray := itoaS r ++ ⟨#[46]⟩ ++ itoaS d
theorem bdrew2 {w w' : World} (h : Below w.drew.heap.size w.drew w') : Below w.heap.size w w' := (Below.refl _ _).drew.trans (h.mono (by simp))
set_option maxRecDepth 100000 in
set_option maxHeartbeats 2000000 in
theorem btext_any {T : World → Prop} {R : Int → Prop} (K : ItoaK T R) (r d : Int) (w : World) (hT : T w) (hr : R r) (hd : R d) (hc : chkE 7 r d = 0) :
    Calls Tryz.prog 57 #[.agg #[.int .i64 r, .int .i64 d]] w fun e w' => e = .returned (.tuple #[.string (btxt r d), .int .i64 0]) ∧ Below w.heap.size w w' := by
  have HK := Lib.hid K
  have HR := Lib.hid hr
  have HD := Lib.hid hd
  have HC := Lib.hid hc
  have HT := Lib.hid hT
  have z1 := K.size r hr
  have z2 := K.size d hd
  have n1 : ¬ 9223372036854775807 < (itoaS r).size + 1 := by omega
  have n2 : ¬ 9223372036854775807 < (itoaS r).size + 1 + (itoaS d).size := by omega
  clear K hr hd hc hT z1 z2
  go_enter Tryz.func57, Tryz.ntmps57
  go_upto_region 4 with (go_at_call 34; refine (check_any _ _ _ _).mono ?_; rw [HC.out]; rintro e w2 ⟨rfl, b2⟩; have B2 := Lib.hid b2; clear b2)
  have kb := Blk.new w 24 #[.int .i64 r, .int .i64 d]
  have hb := box_below w (.cells #[.int .i64 r, .int .i64 d] 24)
  have hB := bchain hb B2.out
  have B3 := Lib.hid hB
  have T3 := Lib.hid (HK.out.keep _ _ HT.out hB)
  have K3 : Blk w2 w.heap.size 24 #[.int .i64 r, .int .i64 d] := kb.fr (Fr.of_below B2.out : Fr S0 _ _) (fun h => h)
  have e0 := K3.cell (i := 0) (v := .int .i64 r) rfl
  have e1 := K3.cell (i := 1) (v := .int .i64 d) rfl
  clear kb hb hB K3
  refine wp_region_held_drew (S := (fun W => W.cell? ⟨w.heap.size, 0, none⟩ = some (.int .i64 r) ∧ W.cell? ⟨w.heap.size, 1, none⟩ = some (.int .i64 d))) (by kernel_rfl) ?_ (fun hHeld => ?_)
  · exact ⟨e0, e1⟩
  try dsimp only at hHeld
  refine held_yes (i := 0) (some 10) (v := ?_) rfl rfl (by kernel_rfl) (by kernel_rfl) (by kernel_rfl) (fun _ _ _ h => h) (by rfl) ?_ hHeld ?_
  rotate_left
  · (intro w hSw; (try dsimp only at hSw); go_simp; all_goals with_reducible rfl)
  try simp only [Act.put, List.setIfInBounds_toArray, List.set_cons_zero, List.set_cons_succ]
  refine held_yes (i := 1) (some 11) (v := ?_) rfl rfl (by kernel_rfl) (by kernel_rfl) (by kernel_rfl) (fun _ _ _ h => h) (by rfl) ?_ hHeld ?_
  rotate_left
  · (intro w hSw; (try dsimp only at hSw); go_simp; all_goals with_reducible rfl)
  try simp only [Act.put, List.setIfInBounds_toArray, List.set_cons_zero, List.set_cons_succ]
  refine held_yes (i := 4) (some 14) (v := ?_) rfl rfl (by kernel_rfl) (by kernel_rfl) (by kernel_rfl) (fun _ _ _ h => h) (by rfl) ?_ hHeld ?_
  rotate_left
  · (intro w hSw; (try dsimp only at hSw); go_simp; all_goals with_reducible rfl)
  try simp only [Act.put, List.setIfInBounds_toArray, List.set_cons_zero, List.set_cons_succ]
  refine held_yes (i := 5) (some 15) (v := ?_) rfl rfl (by kernel_rfl) (by kernel_rfl) (by kernel_rfl) (fun _ _ _ h => h) (by rfl) ?_ hHeld ?_
  rotate_left
  · (intro w hSw; (try dsimp only at hSw); go_simp; all_goals with_reducible rfl)
  try simp only [Act.put, List.setIfInBounds_toArray, List.set_cons_zero, List.set_cons_succ]
  refine wpAnyH_ready (rs := [2]) (by kernel_rfl) (by simp) ?_
  refine (AllReadyH.cons rfl (fun K' hK' => ?_) AllReadyH.nil)
  go_simp
  (go_at_call 58; refine (HK.out.run _ _ HR.out (HK.out.keep _ _ T3.out (Below.refl _ _).drew)).mono ?_; rintro e w4 ⟨rfl, b4⟩; have b4' := bdrew2 b4; have f0 := bcell b4' e0; have f1 := bcell b4' e1; have B4 := Lib.hid (bchain B3.out b4'); have T4 := Lib.hid (HK.out.keep _ _ T3.out b4'); clear b4 b4')
  go_wp2_with fail
  refine hK'.out _ _ ?_ (fun hHeld => ?_)
  · exact ⟨by assumption, by assumption⟩
  clear hK' K'
  try dsimp only at hHeld
  try simp only [Act.put, List.setIfInBounds_toArray, List.set_cons_zero, List.set_cons_succ]
  refine held_yes (i := 3) (some 13) (v := ?_) rfl rfl (by kernel_rfl) (by kernel_rfl) (by kernel_rfl) (fun _ _ _ h => h) (by rfl) ?_ hHeld ?_
  rotate_left
  · (intro w hSw; (try dsimp only at hSw); go_simp; all_goals with_reducible rfl)
  try simp only [Act.put, List.setIfInBounds_toArray, List.set_cons_zero, List.set_cons_succ]
  refine wpAnyH_ready (rs := [6]) (by kernel_rfl) (by simp) ?_
  refine (AllReadyH.cons rfl (fun K' hK' => ?_) AllReadyH.nil)
  go_simp
  (go_at_call 58; refine (HK.out.run _ _ HD.out T4.out).mono ?_; rintro e w5 ⟨rfl, b5⟩; have g0 := bcell b5 f0; have g1 := bcell b5 f1; have B5 := Lib.hid (bchain B4.out b5); clear b5)
  go_wp2_with fail
  refine hK'.out _ _ ?_ (fun hHeld => ?_)
  · exact ⟨by assumption, by assumption⟩
  clear hK' K'
  try dsimp only at hHeld
  try simp only [Act.put, List.setIfInBounds_toArray, List.set_cons_zero, List.set_cons_succ]
  refine held_yes (i := 7) (some 17) (v := ?_) rfl rfl (by kernel_rfl) (by kernel_rfl) (by kernel_rfl) (fun _ _ _ h => h) (by rfl) ?_ hHeld ?_
  rotate_left
  · (intro w hSw; (try dsimp only at hSw); go_simp; all_goals with_reducible rfl)
  try simp only [Act.put, List.setIfInBounds_toArray, List.set_cons_zero, List.set_cons_succ]
  refine held_yes (i := 8) (some 2) (v := ?_) rfl rfl (by kernel_rfl) (by kernel_rfl) (by kernel_rfl) (fun _ _ _ h => h) (by rfl) ?_ hHeld ?_
  rotate_left
  · (intro w hSw; (try dsimp only at hSw); go_simp; all_goals with_reducible rfl)
  try simp only [Act.put, List.setIfInBounds_toArray, List.set_cons_zero, List.set_cons_succ]
  refine held_yes (i := 9) (some 3) (v := ?_) rfl rfl (by kernel_rfl) (by kernel_rfl) (by kernel_rfl) (fun _ _ _ h => h) (by rfl) ?_ hHeld ?_
  rotate_left
  · (intro w hSw; (try dsimp only at hSw); go_simp; all_goals with_reducible rfl)
  try simp only [Act.put, List.setIfInBounds_toArray, List.set_cons_zero, List.set_cons_succ]
  refine wpAnyH_done (by kernel_rfl) ?_ _
  go_wp2_with fail
  go_returns
  exact ⟨rfl, B5.out⟩

theorem bw_below (w : World) (e : TypeId) (s : ByteArray) : Below w.heap.size w (Lib.bytesWorld w e s) :=
  ⟨rfl, rfl, rfl, by rw [Lib.bytesWorld_size]; omega, fun i hi => Lib.bytesWorld_at_old w e s i hi⟩
theorem bel_grown {w w' : World} (h : Below w.heap.size w w') : w.grownBy w' none := ⟨h.os, h.tape, h.output, h.size, fun i hi _ => h.block i hi⟩
theorem cells_newT (w : World) (t : TypeId) (cs : List Value) : ∀ j u, cs[j]? = some u → (w.alloc (.cells cs.toArray t)).cell? ((⟨w.heap.size, 0, none⟩ : Addr).add j) = some u := fun j u h => by
  have h1 := (Blk.new w t cs.toArray).cell (i := j) (v := u) (by simpa using h)
  rw [show ((⟨w.heap.size, 0, none⟩ : Addr).add j) = ⟨w.heap.size, j, none⟩ by simp [Addr.add]; exact fun h => h.symm]
  exact h1
theorem and15 : ∀ k : Fin 256, bits BinOp.and IntKind.u8 ((k.val : Nat) : Int) 15 = ((k.val % 16 : Nat) : Int) := by decide +kernel
def dig (k : Nat) : UInt8 := if k < 10 then UInt8.ofNat (48 + k) else UInt8.ofNat (87 + k)
theorem digG : ∀ a : Fin 16, ∀ h, (⟨#[48, 49, 50, 51, 52, 53, 54, 55, 56, 57, 97, 98, 99, 100, 101, 102]⟩ : ByteArray)[a.val]'h = dig a.val := by decide
def hexL (l : List UInt8) : List UInt8 := l.flatMap fun c => [dig (c.toNat / 16), dig (c.toNat % 16)]
def hexS (v : ByteArray) : ByteArray := if v.size = 0 then ⟨#[45]⟩ else sOf (hexL v.data.toList)
def vtxt (x : Vt) : ByteArray := itoaS x.nd ++ ⟨#[32]⟩ ++ btxt x.r x.d ++ ⟨#[32]⟩ ++ itoaS x.sl ++ ⟨#[32]⟩ ++ hexS x.v
def u8V (l : List UInt8) : List Value := l.map fun b => .int .u8 (b.toNat : Int)
theorem hexL_length (l : List UInt8) : (hexL l).length = 2 * l.length := by
  unfold hexL
  induction l with
  | nil => rfl
  | cons c r ih => simp only [List.flatMap_cons, List.length_append, List.length_cons, List.length_nil, ih]; omega
theorem hexL_snoc (l : List UInt8) (c : UInt8) : hexL (l ++ [c]) = hexL l ++ [dig (c.toNat / 16), dig (c.toNat % 16)] := by simp [hexL]
theorem row_bytes {w : World} {base g n cap : Nat} {l : List UInt8} (h : w.ownsRow base 5 1 (.slice (some ⟨g, 0, none⟩) n cap) n (u8V l)) : l.length = n ∧ Lib.Bytes w g 0 (sOf l) := by
  have hl : l.length = n := by have := h.1; unfold u8V at this; simpa using this
  refine ⟨hl, fun i hi => ?_⟩
  have hi2 : i < l.length := by simpa [sOf, ByteArray.size] using hi
  rcases h.2 with ⟨h0, _⟩ | ⟨g', cap', cur, h0, hb, hg, hle, hcap, hsz, htake⟩
  · cases h0
  · cases h0
    have hb2 : Blk w g 5 cur := hg
    have e1 : cur.toList[i]? = some (.int .u8 ((sOf l)[i].toNat : Int)) := by
      have h2 := congrArg (fun x => x[i]?) htake
      simp only [List.getElem?_take] at h2
      rw [if_pos (by omega)] at h2
      rw [h2]
      unfold u8V
      rw [List.getElem?_map, List.getElem?_eq_getElem hi2]
      rfl
    rw [Nat.zero_add]
    exact hb2.cell (i := i) (by rw [← Array.getElem?_toList]; exact e1)
theorem Bytes_below {w w' : World} {g : Nat} {s : ByteArray} (h : Lib.Bytes w g 0 s) (hb : Below w.heap.size w w') : Lib.Bytes w' g 0 s := fun i hi => bcell hb (h i hi)
theorem sOf_size (l : List UInt8) : (sOf l).size = l.length := by
  show l.toArray.size = l.length
  simp
theorem hexS_size {v : ByteArray} (h : ¬ v.size = 0) : (hexS v).size = 2 * v.size := by
  unfold hexS
  rw [if_neg h, sOf_size, hexL_length]
  rfl
theorem hexS_size1 {v : ByteArray} (h : v.size = 0) : (hexS v).size = 1 := by
  unfold hexS
  rw [if_pos h]
  rfl
theorem info_u8 : (Tryz.prog.info? 5).map (fun i => (i.zero, i.size, i.bytes)) = some (some (.int .u8 0), 1, 1) := by kernel_rfl
theorem alone_bd7 {nd r d sl : Int} {v : ByteArray} (h : aloneB ⟨nd, r, d, sl, v⟩ 7 = true) : (0 ≤ nd ∧ nd < 7) ∧ (1 ≤ r ∧ r ≤ 1073741824) ∧ (0 ≤ d ∧ d < 7) ∧ (0 ≤ sl ∧ sl < 4096) ∧ v.size ≤ 65536 ∧ chkE 7 r d = 0 := by
  unfold aloneB chkE at h
  unfold chkE
  rw [if_neg (by omega)] at h ⊢
  simp only [Bool.and_eq_true, decide_eq_true_eq, Bool.not_eq_true', Bool.and_eq_false_iff, beq_eq_false_iff_ne] at h
  obtain ⟨h1, h2, h3, h4, ⟨h5, h6⟩, h7⟩ := h
  rw [if_neg (show ¬ (r = 0 ∧ d = 0) by omega)] at h4 ⊢
  by_cases hc : r < 1 ∨ 1073741824 < r ∨ d < 0 ∨ (7 : Int) ≤ d
  · rw [if_pos hc] at h4; exact absurd h4 (by decide)
  · rw [if_neg hc] at h4 ⊢; refine ⟨by omega, by omega, by omega, by omega, by omega, rfl⟩
set_option maxRecDepth 100000 in
set_option maxHeartbeats 2000000 in
theorem text_any {T : World → Prop} {R : Int → Prop} (K : ItoaK T R) (nd r d sl : Int) (v : ByteArray) (w : World) (hT : T w) (hR : aloneB ⟨nd, r, d, sl, v⟩ 7 = true → R nd ∧ R r ∧ R d ∧ R sl) :
    Calls Tryz.prog 32 #[.agg #[.int .i64 nd, .int .i64 r, .int .i64 d, .int .i64 sl, .string v]] w fun e w' =>
      e = .returned (if aloneB ⟨nd, r, d, sl, v⟩ 7 = true then .tuple #[.string (vtxt ⟨nd, r, d, sl, v⟩), .int .i64 0] else .tuple #[.string ⟨#[]⟩, .int .i64 2]) ∧ Below w.heap.size w w' := by
  have hb := box_below w (.cells #[.int .i64 nd, .int .i64 r, .int .i64 d, .int .i64 sl, .string v] 35)
  have kb := Blk.new w 35 #[.int .i64 nd, .int .i64 r, .int .i64 d, .int .i64 sl, .string v]
  have HB := Lib.hid hb
  have KB := Lib.hid kb
  have HT := Lib.hid hT
  have HK := Lib.hid K
  clear hb kb hT K
  cases ha : aloneB ⟨nd, r, d, sl, v⟩ 7 with
  | false =>
    rw [if_neg (by simp)]
    clear hR
    go_enter Tryz.func32, Tryz.ntmps32
    go_wp2_with (go_at_call 56; refine (alone_any _ _ _ _ _ _ _).mono ?_; rw [ha]; rintro e w2 ⟨rfl, b2⟩; have B2 := Lib.hid (bchain HB.out b2); clear b2)
    go_returns
    exact ⟨rfl, B2.out⟩
  | true =>
    rw [if_pos rfl]
    obtain ⟨hr1, hr2, hr3, hr4⟩ := hR ha
    have HR1 := Lib.hid hr1
    have HR2 := Lib.hid hr2
    have HR3 := Lib.hid hr3
    have HR4 := Lib.hid hr4
    obtain ⟨a1, a2, a3, a4, a5, a6⟩ := alone_bd7 ha
    have HC := Lib.hid a6
    have HA := Lib.hid ha
    clear hR hr1 hr2 hr3 hr4 ha a6
    go_enter Tryz.func32, Tryz.ntmps32
    go_upto_region 3 with (go_at_call 56; refine (alone_any _ _ _ _ _ _ _).mono ?_; rw [HA.out]; rintro e w2 ⟨rfl, b2⟩; have B2 := Lib.hid (bchain HB.out b2); have K2 := Lib.hid (KB.out.fr (Fr.of_below b2 : Fr S0 _ _) (fun h => h)); clear b2)
    obtain ⟨g, hg⟩ : ∃ g, g = w.heap.size := ⟨_, rfl⟩
    rw [← hg] at K2 ⊢
    have hgw : w.heap.size ≤ g := by omega
    clear hg
    have y1 := K2.out.cell (i := 1) (v := .int .i64 r) rfl
    have y2 := K2.out.cell (i := 2) (v := .int .i64 d) rfl
    go_upto_region 6 with (go_at_call 57; refine (btext_any HK.out r d _ (HK.out.keep _ _ HT.out B2.out) HR2.out HR3.out HC.out).mono ?_; rintro e w3 ⟨rfl, b3⟩; have B3 := Lib.hid (bchain B2.out b3); have K3 := Lib.hid (K2.out.fr (Fr.of_below b3 : Fr S0 _ _) (fun h => h)); clear b3)
    have y3 := K3.out.cell (i := 4) (v := .string v) rfl
    clear y1 y2 K2 B2 KB HB
    have hmk : ∃ MC : Array Value, MC.size = 2 * v.size * 1 ∧ ∀ W, (Instr.makeSlice 68 (.int .i64 0) (.int .i64 (2 * (v.size : Int)))).run Tryz.prog W = .ok (.slice (some ⟨W.heap.size, 0, none⟩) 0 (2 * v.size)) (W.alloc (.cells MC 5)) := by
      obtain ⟨i0, hi, hz0, hz1, hz2⟩ := info_parts info_u8
      have e1 : (2 * (v.size : Int)).toNat = 2 * v.size := by omega
      refine ⟨madeCells (Value.int .u8 0).cells ((2 * (v.size : Int)).toNat * i0.size), ?_, fun W => ?_⟩
      · rw [size_madeCells, hz1, e1]
      · have h1 := run_makeSlice W 68 5 i0 (.int .u8 0) Tryz.underlying68 hi hz0 .i64 .i64 0 (2 * (v.size : Int)) (by omega) (by omega) (by rw [hz1]; omega) (by rw [hz2]; omega) (by omega)
        rw [h1, e1]
        rfl
    obtain ⟨MC, hmc, hmk⟩ := hmk
    have hcv : ∀ W : World, (convert 9 68 (.string v)).run Tryz.prog W = .ok (.slice (some ⟨W.heap.size, 0, none⟩) v.size (grownCap W v.size 0 5)) (Lib.bytesWorld W 5 v) := fun W => Lib.run_convert_string_bytes W _ _ _ v Tryz.underlying9 Tryz.underlying68 Tryz.underlying5
    have y4 := bcell (box_below w3 (.cells MC 5)) y3
    go_upto_region 8 with fail
    have bA := box_below w3 (.cells MC 5)
    have bC := bchain bA (bw_below (w3.alloc (.cells MC 5)) 5 v)
    have B5 := Lib.hid (bchain B3.out bC)
    have K5 := Lib.hid (K3.out.fr (Fr.of_below bC : Fr S0 _ _) (fun h => h))
    have hrow := World.ownsRow_made (e := 5) (size := 1) (base := w3.heap.size) w3 MC (2 * v.size) (Nat.le_refl _) (by unfold maxLen; omega) hmc
    have ROW5 := Lib.hid (World.ownsRow.kept hrow (bel_grown (bw_below _ 5 v)) (.inr (by simp [Value.ownBlock])))
    have HC5 := Lib.hid (fun j hj => Lib.bytesWorld_cell (w3.alloc (.cells MC 5)) 5 v j hj)
    have hs5 := Lib.bytesWorld_size (w3.alloc (.cells MC 5)) 5 v
    have hs4 : (w3.alloc (.cells MC 5)).heap.size = w3.heap.size + 1 := by simp
    generalize grownCap (w3.alloc (.cells MC 5)) v.size 0 5 = capC at *
    generalize Lib.bytesWorld (w3.alloc (.cells MC 5)) 5 v = W5 at *
    obtain ⟨bR, hbR⟩ : ∃ b, b = w3.heap.size := ⟨_, rfl⟩
    obtain ⟨cb, hcb⟩ : ∃ b, b = (w3.alloc (.cells MC 5)).heap.size := ⟨_, rfl⟩
    have hlt5 : bR < cb ∧ cb < W5.heap.size ∧ w.heap.size ≤ bR ∧ g < bR := by have := B3.out.size; have := K3.out.lt; omega
    try simp only [World.size_alloc] at hcb HC5
    try simp only [World.size_alloc]
    rw [← hcb] at HC5 ⊢
    rw [← hbR] at ROW5 ⊢
    clear bA bC hrow hs5 hs4 hbR hcb hmk hcv hmc B3 K3 y3 y4
    go_wp2_with fail
    obtain ⟨i0, hi, hz0, hz1, hz2⟩ := info_parts info_u8
    have HI := Lib.hid hi
    have HZ0 := Lib.hid hz0
    have HZ1 := Lib.hid hz1
    have HZ2 := Lib.hid hz2
    clear hi hz0 hz1 hz2
    go_loopg [6, 30] v.size (fun gg c6 c30 wr => ∃ (i gr cap : Nat), i ≤ v.size ∧ gg = v.size - i ∧ c30 = .int .i64 i ∧ c6 = .slice (some ⟨gr, 0, none⟩) (2 * i) cap ∧ wr.ownsRow bR 5 1 (.slice (some ⟨gr, 0, none⟩) (2 * i) cap) (2 * i) (u8V (hexL (v.data.toList.take i))) ∧ gr ≠ cb ∧ cb < wr.heap.size ∧ (∀ j, j < v.size → wr.cell? ⟨cb, j, none⟩ = some (.int .u8 (v.data.toList.getD j 0).toNat)) ∧ Blk wr g 35 #[.int .i64 nd, .int .i64 r, .int .i64 d, .int .i64 sl, .string v] ∧ Below w.heap.size w wr)
    case atStart => exact ⟨0, bR, 2 * v.size, by omega, rfl, rfl, rfl, ROW5.out, by omega, hlt5.2.1, HC5.out, K5.out, B5.out⟩
    case round =>
      clear ROW5 HC5 K5 B5
      obtain ⟨i, gr, cap, hi, rfl, rfl, rfl, hrow, hgc, hcs, hcell, hk, hB⟩ := hrel
      have ROW := Lib.hid hrow
      have HCL := Lib.hid hcell
      have KB := Lib.hid hk
      have B := Lib.hid hB
      clear hrow hcell hk hB
      by_cases hlt : i < v.size
      · obtain ⟨c, hc⟩ : ∃ c : UInt8, c = v.data.toList.getD i 0 := ⟨_, rfl⟩
        have hcx : wr.cell? ⟨cb, i, none⟩ = some (.int .u8 (c.toNat : Int)) := by rw [hc]; exact HCL.out i hlt
        obtain ⟨k, hk⟩ : ∃ k : Nat, k = c.toNat := ⟨_, rfl⟩
        have hk256 : k < 256 := by rw [hk]; exact c.toNat_lt
        rw [← hk] at hcx
        have HKC := Lib.hid hk
        have HCC := Lib.hid hc
        clear hk hc
        go_upto_region 10 with fail
        obtain ⟨a, ha⟩ : ∃ a : Nat, a = k / 16 := ⟨_, rfl⟩
        obtain ⟨b, hb⟩ : ∃ b : Nat, b = k % 16 := ⟨_, rfl⟩
        have hq1 : (k : Int) / 16 = (a : Int) := by omega
        have hq2 : bits BinOp.and IntKind.u8 (k : Int) 15 = (b : Int) := by rw [hb]; exact and15 ⟨k, hk256⟩
        have ha16 : a < 16 := by omega
        have hb16 : b < 16 := by omega
        have ha16' : (a : Int) < 16 := by omega
        have hb16' : (b : Int) < 16 := by omega
        obtain ⟨e1, he1⟩ : ∃ e, e = dig a := ⟨_, rfl⟩
        obtain ⟨e2, he2⟩ : ∃ e, e = dig b := ⟨_, rfl⟩
        have hd1 : ∀ h, (⟨#[48, 49, 50, 51, 52, 53, 54, 55, 56, 57, 97, 98, 99, 100, 101, 102]⟩ : ByteArray)[a]'h = e1 := fun h => by rw [he1]; exact digG ⟨a, ha16⟩ h
        have hd2 : ∀ h, (⟨#[48, 49, 50, 51, 52, 53, 54, 55, 56, 57, 97, 98, 99, 100, 101, 102]⟩ : ByteArray)[b]'h = e2 := fun h => by rw [he2]; exact digG ⟨b, hb16⟩ h
        have HSN : Hid (u8V (hexL (v.data.toList.take i)) ++ [.int .u8 (e1.toNat : Int), .int .u8 (e2.toNat : Int)] = u8V (hexL (v.data.toList.take (i + 1)))) := by
          have h1 : v.data.toList.take (i + 1) = v.data.toList.take i ++ [c] := by
            rw [HCC.out, List.take_add_one, List.getD_eq_getElem?_getD, List.getElem?_eq_getElem (by simpa using hlt)]
            rfl
          rw [Hid, h1, hexL_snoc, he1, he2, ha, hb, HKC.out]
          simp [u8V]
        have hb9 : Below wr.heap.size wr (wr.alloc (.cells #[.int .u8 (e1.toNat : Int), .int .u8 (e2.toNat : Int)] 5)).drew := ((Below.refl _ _).alloc (Nat.le_refl _) _).drew
        have ROW9 := Lib.hid (World.ownsRow.kept ROW.out (bel_grown hb9) (.inr (by simp [Value.ownBlock])))
        have KB9 := Lib.hid (KB.out.fr (Fr.of_below hb9 : Fr S0 _ _) (fun h => h))
        have B9 := Lib.hid (bchain B.out hb9)
        have HCL9 := Lib.hid (fun j hj => bcell hb9 (HCL.out j hj))
        have hsz9 : (wr.alloc (.cells #[.int .u8 (e1.toNat : Int), .int .u8 (e2.toNat : Int)] 5)).drew.heap.size = wr.heap.size + 1 := by simp
        have HSZ9 := Lib.hid hsz9
        have hbb := (World.ownsRow.lt ROW.out gr rfl)
        have hkl := KB.out.lt
        clear he1 he2 ha hb hb9 hsz9 HCC HKC
        refine wp_region_held_drew (S := (fun W => True)) (by kernel_rfl) ?_ (fun hHeld => ?_)
        · exact trivial
        try dsimp only at hHeld
        refine held_yes (i := 0) (some 34) (v := ?_) rfl rfl (by kernel_rfl) (by kernel_rfl) (by kernel_rfl) (fun _ _ _ h => h) (by rfl) ?_ hHeld ?_
        rotate_left
        · (intro w hSw; (try dsimp only at hSw); go_simp; all_goals with_reducible rfl)
        try simp only [Act.put, List.setIfInBounds_toArray, List.set_cons_zero, List.set_cons_succ]
        refine held_yes (i := 1) (some 35) (v := ?_) rfl rfl (by kernel_rfl) (by kernel_rfl) (by kernel_rfl) (fun _ _ _ h => h) (by rfl) ?_ hHeld ?_
        rotate_left
        · (intro w hSw; (try dsimp only at hSw); go_simp; all_goals with_reducible rfl)
        try simp only [Act.put, List.setIfInBounds_toArray, List.set_cons_zero, List.set_cons_succ]
        refine held_yes (i := 2) (some 36) (v := ?_) rfl rfl (by kernel_rfl) (by kernel_rfl) (by kernel_rfl) (fun _ _ _ h => h) (by rfl) ?_ hHeld ?_
        rotate_left
        · (intro w hSw; (try dsimp only at hSw); go_simp; all_goals with_reducible rfl)
        try simp only [Act.put, List.setIfInBounds_toArray, List.set_cons_zero, List.set_cons_succ]
        refine held_yes (i := 3) (some 37) (v := ?_) rfl rfl (by kernel_rfl) (by kernel_rfl) (by kernel_rfl) (fun _ _ _ h => h) (by rfl) ?_ hHeld ?_
        rotate_left
        · (intro w hSw; (try dsimp only at hSw); go_simp; all_goals with_reducible rfl)
        try simp only [Act.put, List.setIfInBounds_toArray, List.set_cons_zero, List.set_cons_succ]
        refine held_yes (i := 4) (some 38) (v := ?_) rfl rfl (by kernel_rfl) (by kernel_rfl) (by kernel_rfl) (fun _ _ _ h => h) (by rfl) ?_ hHeld ?_
        rotate_left
        · (intro w hSw; (try dsimp only at hSw); go_simp; all_goals with_reducible rfl)
        try simp only [Act.put, List.setIfInBounds_toArray, List.set_cons_zero, List.set_cons_succ]
        refine held_yes (i := 5) (some 39) (v := ?_) rfl rfl (by kernel_rfl) (by kernel_rfl) (by kernel_rfl) (fun _ _ _ h => h) (by rfl) ?_ hHeld ?_
        rotate_left
        · (intro w hSw; (try dsimp only at hSw); go_simp; all_goals with_reducible rfl)
        try simp only [Act.put, List.setIfInBounds_toArray, List.set_cons_zero, List.set_cons_succ]
        refine held_yes (i := 6) (some 40) (v := ?_) rfl rfl (by kernel_rfl) (by kernel_rfl) (by kernel_rfl) (fun _ _ _ h => h) (by rfl) ?_ hHeld ?_
        rotate_left
        · (intro w hSw; (try dsimp only at hSw); go_simp; all_goals with_reducible rfl)
        try simp only [Act.put, List.setIfInBounds_toArray, List.set_cons_zero, List.set_cons_succ]
        refine wpAnyH_ready (rs := [7]) (by kernel_rfl) (by simp) ?_
        refine (AllReadyH.cons rfl (fun K' hK' => ?_) AllReadyH.nil)
        go_simp
        refine hK'.out _ _ ?_ (fun hHeld => ?_)
        · trivial
        clear hK' K'
        try dsimp only at hHeld
        try simp only [Act.put, List.setIfInBounds_toArray, List.set_cons_zero, List.set_cons_succ]
        refine wpAnyH_ready (rs := [8]) (by kernel_rfl) (by simp) ?_
        refine (AllReadyH.cons rfl (fun K' hK' => ?_) AllReadyH.nil)
        (refine step_append_lies _ rfl _ _ 68 rfl bR 5 i0 (.int .u8 0) 1 1 Tryz.underlying68 HI.out HZ0.out HZ1.out HZ2.out rfl (by decide) (.slice (some ⟨gr, 0, none⟩) (2 * i) cap) _ _ rfl ROW9.out ⟨wr.heap.size, 0, none⟩ 2 2 [.int .u8 (e1.toNat : Int), .int .u8 (e2.toNat : Int)] rfl rfl (fun j u hu => cells_newT wr _ _ j u hu) (by simp [Value.oneCell']) (by decide) (by unfold maxLen; omega) (by omega) (by rw [HSZ9.out]; omega) _ rfl ?_; intro g2 cap2 wa hra hga hoa hla; change K' (Act.put _ (some 42) _) _; have HRA := Lib.hid hra; have HGA := Lib.hid hga; have HOA := Lib.hid hoa; clear hra hga hoa)
        refine hK'.out _ _ ?_ (fun hHeld => ?_)
        · trivial
        clear hK' K'
        try dsimp only at hHeld
        try simp only [Act.put, List.setIfInBounds_toArray, List.set_cons_zero, List.set_cons_succ]
        refine held_yes (i := 9) (some 6) (v := ?_) rfl rfl (by kernel_rfl) (by kernel_rfl) (by kernel_rfl) (fun _ _ _ h => h) (by rfl) ?_ hHeld ?_
        rotate_left
        · (intro w hSw; (try dsimp only at hSw); go_simp; all_goals with_reducible rfl)
        try simp only [Act.put, List.setIfInBounds_toArray, List.set_cons_zero, List.set_cons_succ]
        refine wpAnyH_done (by kernel_rfl) ?_ _
        have fa : Fr (S1 gr) _ wa := Fr.of_grown HGA.out (fun i e => by cases e; rfl)
        have hne : g2 ≠ cb := by
          rcases HOA.out with h | h
          · have : gr = g2 := Option.some.inj h
            omega
          · rw [HSZ9.out] at h
            omega
        have hsa := fa.size
        have HRB : Hid (wa.ownsRow bR 5 1 (.slice (some ⟨g2, 0, none⟩) (2 * (i + 1)) cap2) (2 * (i + 1)) (u8V (hexL (v.data.toList.take (i + 1))))) := by rw [Hid, ← HSN.out]; exact HRA.out
        have HCLa := Lib.hid (fun j hj => fa.cell (p := ⟨cb, j, none⟩) (fun e => hgc (Eq.symm e)) (HCL9.out j hj))
        have KBa := Lib.hid (KB9.out.fr fa (fun e => by have e : g = gr := e; omega))
        have Ba := Lib.hid (Fr.upB B9.out fa (fun i e => by have e : i = gr := e; omega))
        rw [HSZ9.out] at hsa
        clear HRA HGA HOA fa HSN ROW9 KB9 B9 HCL9 HSZ9 hd1 hd2
        go_wp2_with fail
        go_roundg (v.size - (i + 1))
        case measure => omega
        case rel => exact ⟨i + 1, g2, cap2, by omega, rfl, by go_num, rfl, HRB.out, hne, by omega, HCLa.out, KBa.out, Ba.out⟩
      · have e : i = v.size := by omega
        subst e
        have hfull : v.data.toList.take v.size = v.data.toList := List.take_of_length_le (by simp)
        rw [hfull] at ROW
        have hwz := B.out.size
        have hkl := KB.out.lt
        have hgr := (World.ownsRow.lt ROW.out gr rfl)
        go_upto_if 46 with fail
        go_cut [6] (fun c6 wx => ∃ g6 cap6, c6 = .slice (some ⟨g6, 0, none⟩) (hexS v).size cap6 ∧ Lib.Bytes wx g6 0 (hexS v) ∧ Blk wx g 35 #[.int .i64 nd, .int .i64 r, .int .i64 d, .int .i64 sl, .string v] ∧ Below w.heap.size w wx)
        case first =>
          by_cases hv0 : v.size = 0
          · have HV0 := Lib.hid hv0
            have e1 : decide (2 * (v.size : Int) = 0) = true := by simp; omega
            have e1' : (2 * (v.size : Int) == 0) = true := by simp; omega
            have e2 : hexS v = sOf [45] := by unfold hexS; rw [if_pos hv0]; rfl
            have E2 := Lib.hid e2
            have e3 : v.data.toList = [] := by rw [← List.length_eq_zero_iff]; simpa using hv0
            have e4 : 2 * v.size = 0 := by omega
            have E3 := Lib.hid e3
            have E4 := Lib.hid e4
            clear e2 e3 e4 hfull hv0
            go_wp2_with (first
              | (at_builtin; refine wpList_append_lies _ rfl _ _ 68 rfl bR 5 i0 (.int .u8 0) 1 1 Tryz.underlying68 HI.out HZ0.out HZ1.out HZ2.out rfl (by decide) (.slice (some ⟨gr, 0, none⟩) (2 * v.size) cap) _ _ rfl (World.ownsRow.alloc ROW.out _) ⟨wr.heap.size, 0, none⟩ 1 1 [.int .u8 45] rfl rfl (cells_newT wr _ _) (by simp [Value.oneCell']) (by decide) (by unfold maxLen; omega) (by omega) (by simp; omega) _ rfl ?_; intro g2 cap2 wa hra hga hoa hla; have HRA := Lib.hid hra; have HGA := Lib.hid hga; clear hra hga hoa))
            go_meet
            have fa : Fr (S1 gr) _ wa := Fr.of_grown HGA.out (fun i e => by cases e; rfl)
            have bl := box_below wr (.cells #[.int .u8 45] 5)
            refine ⟨g2, cap2, ?_, ?_, (KB.out.fr (Fr.of_below bl : Fr S0 _ _) (fun h => h)).fr fa (fun e => by have e : g = gr := e; omega), Fr.upB (bchain B.out bl) fa (fun i e => by have e : i = gr := e; omega)⟩
            · rw [hexS_size1 HV0.out, E4.out]
            · rw [E2.out]
              have h1 := HRA.out
              rw [E3.out, E4.out] at h1
              exact (row_bytes (l := [45]) h1).2
          · have e1 : ¬ 2 * (v.size : Int) = 0 := by omega
            have e2 : hexS v = sOf (hexL v.data.toList) := by unfold hexS; rw [if_neg hv0]
            have e3 : (hexS v).size = 2 * v.size := hexS_size hv0
            have E2 := Lib.hid e2
            have E3 := Lib.hid e3
            clear e2 e3
            go_wp2_with fail
            go_meet
            refine ⟨gr, cap, by rw [E3.out], ?_, KB.out, B.out⟩
            rw [E2.out]
            exact (row_bytes ROW.out).2
        case rest =>
        clear ROW HCL KB B hfull hwz hkl hgr
        obtain ⟨g6, cap6, rfl, hby, hk6, hb6⟩ := hcut
        obtain ⟨w6, rfl⟩ : ∃ w6 : World, w6 = wc := ⟨_, rfl⟩
        have BY6 := Lib.hid hby
        have B6 := Lib.hid hb6
        have q0 := hk6.cell (i := 0) (v := .int .i64 nd) rfl
        have q3 := hk6.cell (i := 3) (v := .int .i64 sl) rfl
        have T6 := Lib.hid (HK.out.keep _ _ HT.out hb6)
        have hs6 : (hexS v).size ≤ 131073 := by
          by_cases h0 : v.size = 0
          · rw [hexS_size1 h0]; omega
          · rw [hexS_size h0]; omega
        have s1 := HK.out.size _ HR1.out
        have s2 := HK.out.size _ HR2.out
        have s3 := HK.out.size _ HR3.out
        have s4 := HK.out.size _ HR4.out
        have hbt : (btxt r d).size ≤ 41 := by unfold btxt; simp only [ByteArray.size_append]; have : (⟨#[46]⟩ : ByteArray).size = 1 := rfl; omega
        have n1 : ¬ 9223372036854775807 < (itoaS nd).size + 1 := by omega
        have n2 : ¬ 9223372036854775807 < (itoaS nd).size + 1 + (btxt r d).size := by omega
        have n3 : ¬ 9223372036854775807 < (itoaS nd).size + 1 + (btxt r d).size + 1 := by omega
        have n4 : ¬ 9223372036854775807 < (itoaS nd).size + 1 + (btxt r d).size + 1 + (itoaS sl).size := by omega
        have n5 : ¬ 9223372036854775807 < (itoaS nd).size + 1 + (btxt r d).size + 1 + (itoaS sl).size + 1 := by omega
        have n6 : ¬ 9223372036854775807 < (itoaS nd).size + 1 + (btxt r d).size + 1 + (itoaS sl).size + 1 + (hexS v).size := by omega
        have hcv : ∀ W, Lib.Bytes W g6 0 (hexS v) → (convert 68 9 (.slice (some ⟨g6, 0, none⟩) (hexS v).size cap6)).run Tryz.prog W = .ok (.string (hexS v)) W := fun W hW => Lib.run_convert_whole W _ _ _ Tryz.underlying68 Tryz.underlying5 Tryz.underlying9 g6 0 (hexS v) hW cap6
        have HCV := Lib.hid hcv
        have cv6 := hcv w6 hby
        clear hby hb6 hk6 s1 s2 s3 s4 hbt hcv hs6
        go_upto_region 14 with fail
        refine wp_region_held_drew (S := (fun W => W.cell? ⟨g, 0, none⟩ = some (.int .i64 nd) ∧ W.cell? ⟨g, 3, none⟩ = some (.int .i64 sl) ∧ (convert 68 9 (.slice (some ⟨g6, 0, none⟩) (hexS v).size cap6)).run Tryz.prog W = .ok (.string (hexS v)) W)) (by kernel_rfl) ?_ (fun hHeld => ?_)
        · exact ⟨q0, q3, HCV.out _ BY6.out⟩
        try dsimp only at hHeld
        refine held_yes (i := 0) (some 50) (v := ?_) rfl rfl (by kernel_rfl) (by kernel_rfl) (by kernel_rfl) (fun _ _ _ h => h) (by rfl) ?_ hHeld ?_
        rotate_left
        · (intro w hSw; (try dsimp only at hSw); go_simp; all_goals with_reducible rfl)
        try simp only [Act.put, List.setIfInBounds_toArray, List.set_cons_zero, List.set_cons_succ]
        refine held_yes (i := 1) (some 51) (v := ?_) rfl rfl (by kernel_rfl) (by kernel_rfl) (by kernel_rfl) (fun _ _ _ h => h) (by rfl) ?_ hHeld ?_
        rotate_left
        · (intro w hSw; (try dsimp only at hSw); go_simp; all_goals with_reducible rfl)
        try simp only [Act.put, List.setIfInBounds_toArray, List.set_cons_zero, List.set_cons_succ]
        refine held_yes (i := 4) (some 54) (v := ?_) rfl rfl (by kernel_rfl) (by kernel_rfl) (by kernel_rfl) (fun _ _ _ h => h) (by rfl) ?_ hHeld ?_
        rotate_left
        · (intro w hSw; (try dsimp only at hSw); go_simp; all_goals with_reducible rfl)
        try simp only [Act.put, List.setIfInBounds_toArray, List.set_cons_zero, List.set_cons_succ]
        refine held_yes (i := 7) (some 57) (v := ?_) rfl rfl (by kernel_rfl) (by kernel_rfl) (by kernel_rfl) (fun _ _ _ h => h) (by rfl) ?_ hHeld ?_
        rotate_left
        · (intro w hSw; (try dsimp only at hSw); go_simp; all_goals with_reducible rfl)
        try simp only [Act.put, List.setIfInBounds_toArray, List.set_cons_zero, List.set_cons_succ]
        refine held_yes (i := 8) (some 58) (v := ?_) rfl rfl (by kernel_rfl) (by kernel_rfl) (by kernel_rfl) (fun _ _ _ h => h) (by rfl) ?_ hHeld ?_
        rotate_left
        · (intro w hSw; (try dsimp only at hSw); go_simp; all_goals with_reducible rfl)
        try simp only [Act.put, List.setIfInBounds_toArray, List.set_cons_zero, List.set_cons_succ]
        refine held_yes (i := 12) (some 62) (v := ?_) rfl rfl (by kernel_rfl) (by kernel_rfl) (by kernel_rfl) (fun _ _ _ h => h) (by rfl) ?_ hHeld ?_
        rotate_left
        · (intro w hSw; (try dsimp only at hSw); go_simp; all_goals with_reducible rfl)
        try simp only [Act.put, List.setIfInBounds_toArray, List.set_cons_zero, List.set_cons_succ]
        refine held_yes (i := 13) (some 63) (v := ?_) rfl rfl (by kernel_rfl) (by kernel_rfl) (by kernel_rfl) (fun _ _ _ h => h) (by rfl) ?_ hHeld ?_
        rotate_left
        · (intro w hSw; (try dsimp only at hSw); go_simp; all_goals with_reducible rfl)
        try simp only [Act.put, List.setIfInBounds_toArray, List.set_cons_zero, List.set_cons_succ]
        refine wpAnyH_ready (rs := [2]) (by kernel_rfl) (by simp) ?_
        refine (AllReadyH.cons rfl (fun K' hK' => ?_) AllReadyH.nil)
        go_simp
        (go_at_call 58; refine (HK.out.run _ _ HR1.out (HK.out.keep _ _ T6.out (Below.refl _ _).drew)).mono ?_; rintro e w7 ⟨rfl, b7⟩; have b7' := bdrew2 b7; have f0 := bcell b7' q0; have f3 := bcell b7' q3; have B7 := Lib.hid (bchain B6.out b7'); have T7 := Lib.hid (HK.out.keep _ _ T6.out b7'); have BY7 := Lib.hid (Bytes_below BY6.out b7'); have cv7 := HCV.out w7 BY7.out; clear b7 b7')
        go_wp2_with fail
        refine hK'.out _ _ ?_ (fun hHeld => ?_)
        · exact ⟨by assumption, by assumption, by assumption⟩
        clear hK' K'
        try dsimp only at hHeld
        try simp only [Act.put, List.setIfInBounds_toArray, List.set_cons_zero, List.set_cons_succ]
        refine held_yes (i := 3) (some 53) (v := ?_) rfl rfl (by kernel_rfl) (by kernel_rfl) (by kernel_rfl) (fun _ _ _ h => h) (by rfl) ?_ hHeld ?_
        rotate_left
        · (intro w hSw; (try dsimp only at hSw); go_simp; all_goals with_reducible rfl)
        try simp only [Act.put, List.setIfInBounds_toArray, List.set_cons_zero, List.set_cons_succ]
        refine held_yes (i := 5) (some 55) (v := ?_) rfl rfl (by kernel_rfl) (by kernel_rfl) (by kernel_rfl) (fun _ _ _ h => h) (by rfl) ?_ hHeld ?_
        rotate_left
        · (intro w hSw; (try dsimp only at hSw); go_simp; all_goals with_reducible rfl)
        try simp only [Act.put, List.setIfInBounds_toArray, List.set_cons_zero, List.set_cons_succ]
        refine held_yes (i := 6) (some 56) (v := ?_) rfl rfl (by kernel_rfl) (by kernel_rfl) (by kernel_rfl) (fun _ _ _ h => h) (by rfl) ?_ hHeld ?_
        rotate_left
        · (intro w hSw; (try dsimp only at hSw); go_simp; all_goals with_reducible rfl)
        try simp only [Act.put, List.setIfInBounds_toArray, List.set_cons_zero, List.set_cons_succ]
        refine wpAnyH_ready (rs := [9]) (by kernel_rfl) (by simp) ?_
        refine (AllReadyH.cons rfl (fun K' hK' => ?_) AllReadyH.nil)
        go_simp
        (go_at_call 58; refine (HK.out.run _ _ HR4.out T7.out).mono ?_; rintro e w8 ⟨rfl, b8⟩; have h0 := bcell b8 f0; have h3 := bcell b8 f3; have B8 := Lib.hid (bchain B7.out b8); have cv8 := HCV.out w8 (Bytes_below BY7.out b8); clear b8)
        go_wp2_with fail
        refine hK'.out _ _ ?_ (fun hHeld => ?_)
        · exact ⟨by assumption, by assumption, by assumption⟩
        clear hK' K'
        try dsimp only at hHeld
        try simp only [Act.put, List.setIfInBounds_toArray, List.set_cons_zero, List.set_cons_succ]
        refine held_yes (i := 10) (some 60) (v := ?_) rfl rfl (by kernel_rfl) (by kernel_rfl) (by kernel_rfl) (fun _ _ _ h => h) (by rfl) ?_ hHeld ?_
        rotate_left
        · (intro w hSw; (try dsimp only at hSw); go_simp; all_goals with_reducible rfl)
        try simp only [Act.put, List.setIfInBounds_toArray, List.set_cons_zero, List.set_cons_succ]
        refine held_yes (i := 11) (some 61) (v := ?_) rfl rfl (by kernel_rfl) (by kernel_rfl) (by kernel_rfl) (fun _ _ _ h => h) (by rfl) ?_ hHeld ?_
        rotate_left
        · (intro w hSw; (try dsimp only at hSw); go_simp; all_goals with_reducible rfl)
        try simp only [Act.put, List.setIfInBounds_toArray, List.set_cons_zero, List.set_cons_succ]
        refine held_yes (i := 14) (some 64) (v := ?_) rfl rfl (by kernel_rfl) (by kernel_rfl) (by kernel_rfl) (fun _ _ _ h => h) (by rfl) ?_ hHeld ?_
        rotate_left
        · (intro w hSw; (try dsimp only at hSw); go_simp; all_goals with_reducible rfl)
        try simp only [Act.put, List.setIfInBounds_toArray, List.set_cons_zero, List.set_cons_succ]
        refine held_yes (i := 15) (some 2) (v := ?_) rfl rfl (by kernel_rfl) (by kernel_rfl) (by kernel_rfl) (fun _ _ _ h => h) (by rfl) ?_ hHeld ?_
        rotate_left
        · (intro w hSw; (try dsimp only at hSw); go_simp; all_goals with_reducible rfl)
        try simp only [Act.put, List.setIfInBounds_toArray, List.set_cons_zero, List.set_cons_succ]
        refine held_yes (i := 16) (some 3) (v := ?_) rfl rfl (by kernel_rfl) (by kernel_rfl) (by kernel_rfl) (fun _ _ _ h => h) (by rfl) ?_ hHeld ?_
        rotate_left
        · (intro w hSw; (try dsimp only at hSw); go_simp; all_goals with_reducible rfl)
        try simp only [Act.put, List.setIfInBounds_toArray, List.set_cons_zero, List.set_cons_succ]
        refine wpAnyH_done (by kernel_rfl) ?_ _
        go_wp2_with fail
        go_returns
        exact ⟨rfl, B8.out⟩
end Go.Proofs.YthkdmpalhdifbaaGreatDoor
