/- Package chosen: Safe. -/
import Derived.Test.YthkdmpalhdifbaaGreatDoorChoJ
import Derived.Test.YthkdmpalhdifbaaGreatDoorChoKP
set_option linter.unusedVariables false
set_option linter.unusedSimpArgs false
namespace Go.Proofs.YthkdmpalhdifbaaGreatDoor
open Go.RowKit Go.Maps Go.Shelf Go.Sort
attribute [local go_sem] Oper.semAt_some

theorem blk_at {w : World} {k : Nat} (t : TypeId) (c : Array Value) (h : w.heap.size = k) : Blk (w.alloc (.cells c t)) k t c := by
  subst h
  exact Blk.new w t c
theorem sz_alloc {w : World} {k : Nat} (o : Obj) (h : w.heap.size = k) : (w.alloc o).heap.size = k + 1 := by
  rw [World.size_alloc, h]
theorem six (w : World) (t1 t2 t3 t4 t5 t6 : TypeId) (c1 c2 c3 c4 c5 c6 : Array Value) (W : World) (hW : W = (((((w.alloc (.cells c1 t1)).alloc (.cells c2 t2)).alloc (.cells c3 t3)).alloc (.cells c4 t4)).alloc (.cells c5 t5)).alloc (.cells c6 t6)) :
    Blk W w.heap.size t1 c1 ∧ Blk W (w.heap.size + 1) t2 c2 ∧ Blk W (w.heap.size + 2) t3 c3 ∧ Blk W (w.heap.size + 3) t4 c4 ∧ Blk W (w.heap.size + 4) t5 c5 ∧ Blk W (w.heap.size + 5) t6 c6 ∧ Below w.heap.size w W ∧ W.heap.size = w.heap.size + 6 := by
  have b1 := box_below w (.cells c1 t1)
  have e1 := sz_alloc (w := w) (.cells c1 t1) rfl
  have k1 := Blk.new w t1 c1
  generalize w.alloc (.cells c1 t1) = w1 at *
  have b2 := bchain b1 (box_below w1 (.cells c2 t2))
  have e2 := sz_alloc (.cells c2 t2) e1
  have k12 := k1.alloc (.cells c2 t2)
  have k2 := blk_at t2 c2 e1
  generalize w1.alloc (.cells c2 t2) = w2 at *
  have b3 := bchain b2 (box_below w2 (.cells c3 t3))
  have e3 := sz_alloc (.cells c3 t3) e2
  have k13 := k12.alloc (.cells c3 t3)
  have k23 := k2.alloc (.cells c3 t3)
  have k3 := blk_at t3 c3 e2
  generalize w2.alloc (.cells c3 t3) = w3 at *
  have b4 := bchain b3 (box_below w3 (.cells c4 t4))
  have e4 := sz_alloc (.cells c4 t4) e3
  have k14 := k13.alloc (.cells c4 t4)
  have k24 := k23.alloc (.cells c4 t4)
  have k34 := k3.alloc (.cells c4 t4)
  have k4 := blk_at t4 c4 e3
  generalize w3.alloc (.cells c4 t4) = w4 at *
  have b5 := bchain b4 (box_below w4 (.cells c5 t5))
  have e5 := sz_alloc (.cells c5 t5) e4
  have k15 := k14.alloc (.cells c5 t5)
  have k25 := k24.alloc (.cells c5 t5)
  have k35 := k34.alloc (.cells c5 t5)
  have k45 := k4.alloc (.cells c5 t5)
  have k5 := blk_at t5 c5 e4
  generalize w4.alloc (.cells c5 t5) = w5 at *
  subst hW
  exact ⟨k15.alloc _, k25.alloc _, k35.alloc _, k45.alloc _, k5.alloc _, blk_at t6 c6 e5, bchain b5 (box_below w5 (.cells c6 t6)), sz_alloc _ e5⟩

/-- The boxes of Safe: g and the five blocks behind it; bm, the map's; all of them, and the map, lie below top. -/
structure SB (n : Nat) (r d s : Int) (val : ByteArray) (A : GA) (g bm b top : Nat) (W : World) : Prop where
  kn : Blk W g 3 #[.int .i64 (n : Int)]
  kb : Blk W (g + 1) 24 #[.int .i64 r, .int .i64 d]
  ks : Blk W (g + 2) 3 #[.int .i64 s]
  kv : Blk W (g + 3) 9 #[.string val]
  kr : Blk W (g + 4) 4 #[.bool false]
  ke : Blk W (g + 5) 30 #[.int .i64 0]
  km : Blk W bm 77 #[.map (some b)]
  map : MapG CPl sdV W b A
  lt : g + 5 < top ∧ bm < top ∧ b < top
theorem SB.fr {n : Nat} {r d s : Int} {val : ByteArray} {A : GA} {g bm b top : Nat} {W W' : World} {S : Nat → Prop} (h : SB n r d s val A g bm b top W) (k : Fr S W W') (hS : ∀ i, S i → top ≤ i) : SB n r d s val A g bm b top W' := by
  have hl := h.lt
  exact ⟨h.kn.fr k (fun e => by have := hS _ e; omega), h.kb.fr k (fun e => by have := hS _ e; omega), h.ks.fr k (fun e => by have := hS _ e; omega), h.kv.fr k (fun e => by have := hS _ e; omega), h.kr.fr k (fun e => by have := hS _ e; omega), h.ke.fr k (fun e => by have := hS _ e; omega), h.km.fr k (fun e => by have := hS _ e; omega), h.map.fr k (fun e => by have := hS _ e; omega), hl⟩
theorem SB.below {n : Nat} {r d s : Int} {val : ByteArray} {A : GA} {g bm b top : Nat} {W W' : World} (h : SB n r d s val A g bm b top W) (k : Below W.heap.size W W') : SB n r d s val A g bm b top W' := h.fr (Fr.of_below k : Fr S0 W W') (fun i h => h.elim)
theorem SB.size {n : Nat} {r d s : Int} {val : ByteArray} {A : GA} {g bm b top : Nat} {W : World} (h : SB n r d s val A g bm b top W) : g + 5 < W.heap.size ∧ bm < W.heap.size := ⟨h.ke.lt, h.km.lt⟩

theorem walkS_le {n : Nat} {A : GA} {s : Int} {v : ByteArray} : ∀ {p : List Ba} {f g : Nat}, walkS n A s v f p = some g → g ≤ f
  | [], f, g, h => by
    obtain rfl := Option.some.inj h
    exact Nat.le_refl _
  | x :: r, f, g, h => by
    unfold walkS at h
    by_cases hc : condS n A s v f x = true
    · rw [if_pos hc] at h; cases h
    · rw [if_neg hc] at h
      exact Nat.le_trans (walkS_le h) Nat.and_le_left
theorem sd_lt {n : Nat} {A : GA} {s : Int} {b : Ba} (hn : 1 ≤ n ∧ n ≤ 7) (h : GOk n A) : (sdOf A s b).2 < 128 := by
  unfold sdOf
  have h2 : 2 ^ n ≤ 128 := Nat.le_trans (Nat.pow_le_pow_right (by decide) hn.2) (by decide)
  cases hg : getG (s, b.1, b.2) A with
  | none => decide
  | some e => exact Nat.lt_of_lt_of_le (h.set _ (getG_mem hg)) h2
theorem putO_other {W : World} {l i : Nat} (o : Obj) (h : i ≠ l) : (W.putObj l o).heap[i]? = W.heap[i]? := World.putObj_heap_other h
def S3q (q a b : Nat) : Nat → Prop := fun i => i = q ∨ i = a ∨ i = b
/-- Between two rounds. -/
def SafeI (n : Nat) (A : GA) (s : Int) (val : ByteArray) (bq : Nat) (W7 : World) (pre : List (Int × Bs)) (W : World) : Prop :=
  (∃ f, walkS n A s val (2 ^ n - 1) (pre.map (fun x => x.2.1)) = some f ∧ Blk W bq 25 #[.int .u64 (f : Int)]) ∧ Fr (S1 bq) W7 W
def SafeX (n : Nat) (A : GA) (s : Int) (val : ByteArray) (bq ra rb : Nat) (W7 : World) (c : Code) (pre : List (Int × Bs)) (W : World) : Prop :=
  c = .ret ∧ walkS n A s val (2 ^ n - 1) (pre.map (fun x => x.2.1)) = none ∧ Fr (S3q bq ra rb) W7 W ∧ Blk W ra 4 #[.bool true] ∧ Blk W rb 30 #[.int .i64 0]
theorem fr_row {S : Nat → Prop} {W7 X Y : World} {row : Option Nat} (h : Fr S W7 X) (hg : X.grownBy Y row) (hr : ∀ r, row = some r → W7.heap.size ≤ r) : Fr S W7 Y :=
  h.trans' (Fr.of_grown hg (S := fun i => row = some i) (fun i e => e)) (fun i hi e => by have := hr i e; omega)
theorem blk_row {X Y : World} {row : Option Nat} {b : Nat} {t : TypeId} {cs : Array Value} (h : Blk X b t cs) (hg : X.grownBy Y row) (hr : ∀ r, row = some r → ∃ o : Obj, X.heap[r]? = some o ∧ o.isCells = false) : Blk Y b t cs :=
  h.fr (Fr.of_grown hg (S := fun i => row = some i) (fun i e => e)) (fun e => by
    obtain ⟨o, ho, hc⟩ := hr b e
    have h2 : X.heap[b]? = some (.cells cs t (0, 0)) := h
    rw [h2] at ho
    cases ho
    cases hc)
theorem safeI_own {n : Nat} {A : GA} {s : Int} {val : ByteArray} {bq : Nat} {W7 : World} : OwnFrom W7.heap.size (SafeI n A s val bq W7) :=
  fun pre X Y row hs hg hr => ⟨by obtain ⟨⟨f, h1, h2⟩, _⟩ := hs; exact ⟨f, h1, blk_row h2 hg (fun r e => (hr r e).2)⟩, fr_row hs.2 hg (fun r e => (hr r e).1)⟩
theorem safeX_own {n : Nat} {A : GA} {s : Int} {val : ByteArray} {bq ra rb : Nat} {W7 : World} (c : Code) : OwnFrom W7.heap.size (SafeX n A s val bq ra rb W7 c) :=
  fun pre X Y row hs hg hr => ⟨hs.1, hs.2.1, fr_row hs.2.2.1 hg (fun r e => (hr r e).1), blk_row hs.2.2.2.1 hg (fun r e => (hr r e).2), blk_row hs.2.2.2.2 hg (fun r e => (hr r e).2)⟩

theorem frB {S : Nat → Prop} {X a b : World} (h : Fr S X a) (k : Below a.heap.size a b) : Fr S X b := h.trans' (Fr.of_below k : Fr S0 a b) (fun _ _ h => h.elim)
theorem kfB {B : Nat} {a b : World} (k : Below a.heap.size a b) : KeepsFrom B a b := (KeepsOthers.of_grownBy (grown_of k none) (fun j o e => by cases e)).from B
/-- A round that goes on. -/
theorem round_on {n : Nat} {A : GA} {s : Int} {val : ByteArray} {bq f : Nat} {W7 W w9 : World} {pre : List (Int × Bs)} {x : Int × Bs} (hwk : walkS n A s val (2 ^ n - 1) (pre.map (fun x => x.2.1)) = some f) (hc : condS n A s val f x.2.1 = false) (hF : Fr (S1 bq) W7 W) (hfr : Blk W bq 25 #[.int .u64 (f : Int)]) (hq : bq < W7.heap.size) (h9 : Below W.heap.size W w9) :
    KeepsFrom W7.heap.size W (w9.setCell ⟨bq, 0, none⟩ (.int .u64 ((f &&& ((sdOf A s x.2.1).2 ^^^ 127) : Nat) : Int))) ∧ KpQ W7.heap.size bq W (w9.setCell ⟨bq, 0, none⟩ (.int .u64 ((f &&& ((sdOf A s x.2.1).2 ^^^ 127) : Nat) : Int))) ∧ SafeI n A s val bq W7 (pre ++ [x]) (w9.setCell ⟨bq, 0, none⟩ (.int .u64 ((f &&& ((sdOf A s x.2.1).2 ^^^ 127) : Nat) : Int))) := by
  have hz := hF.size
  refine ⟨(kfB h9).trans ((KeepsOthers.setCell _ _ _).from _), fun i hi hne => ?_, ⟨_, ?_, (hfr.fr (Fr.of_below h9 : Fr S0 _ _) (fun h => h)).set 0 _⟩, ?_⟩
  · rw [Below.heap_setCell w9 ⟨bq, 0, none⟩ _ i hne]
    exact h9.block i (by omega)
  · rw [List.map_append]
    rw [show List.map (fun (x : Int × Bs) => x.2.1) [x] = [x.2.1] from rfl, walkS_snoc hwk, if_neg (by rw [hc]; simp)]
  · exact (frB hF h9).setCell (p := ⟨bq, 0, none⟩) (.inl (show S1 bq bq from rfl)) _
/-- A round that returns. -/
theorem round_out {n : Nat} {A : GA} {s : Int} {val : ByteArray} {bq f ra rb : Nat} {W7 W w9 : World} {pre : List (Int × Bs)} {x : Int × Bs} (hwk : walkS n A s val (2 ^ n - 1) (pre.map (fun x => x.2.1)) = some f) (hc : condS n A s val f x.2.1 = true) (hF : Fr (S1 bq) W7 W) (h9 : Below W.heap.size W w9) {v1 v2 : Value}
    (kr : Blk w9 ra 4 #[v1]) (ke : Blk w9 rb 30 #[v2]) (hne : ra ≠ rb) :
    KeepsFrom W7.heap.size W ((w9.setCell ⟨ra, 0, none⟩ (.bool true)).setCell ⟨rb, 0, none⟩ (.int .i64 0)) ∧ SafeX n A s val bq ra rb W7 .ret (pre ++ [x]) ((w9.setCell ⟨ra, 0, none⟩ (.bool true)).setCell ⟨rb, 0, none⟩ (.int .i64 0)) := by
  refine ⟨((kfB h9).trans ((KeepsOthers.setCell _ _ _).from _)).trans ((KeepsOthers.setCell _ _ _).from _), rfl, ?_, ?_, (kr.set 0 _).setOther hne _, (ke.setOther hne.symm _).set 0 _⟩
  · rw [List.map_append]
    rw [show List.map (fun (x : Int × Bs) => x.2.1) [x] = [x.2.1] from rfl, walkS_snoc hwk, if_pos hc]
  · exact (((frB hF h9).mono (S' := S3q bq ra rb) (fun i e => .inl e)).setCell (p := ⟨ra, 0, none⟩) (.inl (.inr (.inl rfl))) _).setCell (p := ⟨rb, 0, none⟩) (.inl (.inr (.inr rfl))) _

theorem BaRow.at {w : World} {lo : Nat} {v : Value} {L : List Ba} (h : BaRow w lo v L) (b0 : Nat) : ∃ A b cap, v = .slice A L.length cap ∧ BaAt w A b L ∧ (b = b0 ∨ lo ≤ b ∧ b < w.heap.size) := by
  rcases h.2 with ⟨rfl, hn⟩ | ⟨g, cap, cur, rfl, hb, hg, hle, hcap, hsz, htake⟩
  · exact ⟨none, b0, 0, by rw [hn], fun h0 => by omega, .inl rfl⟩
  · refine ⟨_, g, cap, rfl, fun _ => ⟨rfl, fun j hj => ?_⟩, .inr ⟨hb, (Array.getElem?_eq_some_iff.1 hg).1⟩⟩
    have hB : Blk w g 24 cur := hg
    have hx : L[j]? = some (L.getD j (0, 0)) := by rw [List.getD_eq_getElem?_getD, List.getElem?_eq_getElem hj]; rfl
    have hc : ∀ i, i < 2 → ∀ u, (encBa (L.getD j (0, 0)))[i]? = some u → w.cell? ⟨g, j * 2 + i, none⟩ = some u := fun i hi u hu => by
      refine hB.cell ?_
      have h1 := flat_at (enc := encBa) (k := 2) (fun x => rfl) L j _ hx i hi
      rw [hu, ← htake, List.getElem?_take, if_pos (by omega)] at h1
      rw [← Array.getElem?_toList]
      exact h1
    exact ⟨hc 0 (by omega) _ rfl, hc 1 (by omega) _ rfl⟩

set_option maxRecDepth 100000 in
set_option maxHeartbeats 4000000 in
theorem safe_main (n : Nat) (v : Value) (L : List Vt) (A : GA) (r d s : Int) (val : ByteArray) (w : World) (h : VotesIn w v L) (hn : 1 ≤ n ∧ n ≤ 7) (hl : L.length ≤ 1000) (hA : (gwalk n [] [] 0 L).1 = some A)
    (hz : (r == 0 && d == 0) = false) (hc : chkE n r d = 0) (hs : (decide (s ≥ 0) && decide (s < 4096)) = true) :
    Calls Tryz.prog 10 #[v, .int .i64 (n : Int), .agg #[.int .i64 r, .int .i64 d], .int .i64 s, .string val] w fun e w' => e = .returned (.tuple #[.bool (safeL n A s val (sortB (belowL A s (r, d))).reverse), .int .i64 0]) ∧ Below w.heap.size w w' := by
  have HV := Lib.hid h
  obtain ⟨g1, g2, g3⟩ := gok hn hA
  have HA := Lib.hid hA
  have G1 := Lib.hid g1
  have G2 := Lib.hid g2
  have HC := Lib.hid hc
  have hal : A.length ≤ 1000 := by omega
  have hEz : ∀ w : World, (Op.equalIn 10000 24 (.agg #[.int .i64 r, .int .i64 d]) (.agg #[.int .i64 0, .int .i64 0])).run Tryz.prog w = .ok false w := fun w => by rw [eqBal, hz]
  have hGq := eqGBal
  have hB0 := fun w => bldBal0 w
  clear h hA g1 g2 g3 hc hz
  refine (callsIn_wide (n := 8)).1 ?_
  refine callsIn_of_wp_marks Tryz.func10 rfl trivial ?_ rfl
  simp only [Tryz.ntmps10, List.size_toArray, List.length_cons, List.length_nil, Nat.reduceAdd, Nat.reduceSub, Array.replicate_succ, Array.replicate_zero, List.push_toArray, List.append_toArray, List.nil_append, List.cons_append]
  refine wpIn_wide.2 ?_
  go_upto_region 1 with fail
  obtain ⟨W0, hW0⟩ : ∃ W0, W0 = (((((w.alloc (.cells #[.int .i64 (n : Int)] 3)).alloc (.cells #[.int .i64 r, .int .i64 d] 24)).alloc (.cells #[.int .i64 s] 3)).alloc (.cells #[.string val] 9)).alloc (.cells #[.bool false] 4)).alloc (.cells #[.int .i64 0] 30) := ⟨_, rfl⟩
  obtain ⟨k1, k2, k3, k4, k5, k6, hb, hsz⟩ := six w _ _ _ _ _ _ _ _ _ _ _ _ W0 hW0
  rw [← hW0]
  obtain ⟨g, hg⟩ : ∃ g, g = w.heap.size := ⟨_, rfl⟩
  have hg1 : w.heap.size ≤ g := by omega
  try simp only [World.size_alloc]
  rw [← hg] at k1 k2 k3 k4 k5 k6 ⊢
  try simp only [Nat.add_assoc, Nat.reduceAdd]
  have HV0 := Lib.hid (HV.out.below hb)
  have B0 := Lib.hid hb
  have HG := Lib.hid hg
  clear hW0 hb hg HV hsz
  have n0 := k1.cell (i := 0) (v := .int .i64 (n : Int)) rfl
  go_upto_region 2 with (go_at_call 33; refine (gather_some _ HV0.out hn hl HA.out).mono ?_; rintro e w1 ⟨b, rfl, m1, hbs, b1⟩; have B1 := Lib.hid b1; have M1 := Lib.hid m1; clear b1 m1)
  have b1 := B1.out
  have hk6 := k6.lt
  have bl := box_below w1 (.cells #[.map (some b)] 77)
  have b2 := bchain b1 bl
  have f2 : Fr S0 W0 (w1.alloc (.cells #[.map (some b)] 77)) := Fr.of_below b2
  obtain ⟨bm, hbm⟩ : ∃ bm, bm = w1.heap.size := ⟨_, rfl⟩
  have km : Blk (w1.alloc (.cells #[.map (some b)] 77)) bm 77 #[.map (some b)] := by rw [hbm]; exact Blk.new w1 _ _
  rw [← hbm]
  have hz1 : (w1.alloc (.cells #[.map (some b)] 77)).heap.size = bm + 1 := by rw [hbm]; simp
  have hbl := M1.out.lt
  have SB2 : Hid (SB n r d s val A g bm b (bm + 1) (w1.alloc (.cells #[.map (some b)] 77))) :=
    ⟨k1.fr f2 (fun h => h), k2.fr f2 (fun h => h), k3.fr f2 (fun h => h), k4.fr f2 (fun h => h), k5.fr f2 (fun h => h), k6.fr f2 (fun h => h), km, M1.out.below bl, by have := b1.size; omega⟩
  have B2 := Lib.hid (bchain B0.out b2)
  have hgm : g < bm := by have := b1.size; omega
  generalize (w1.alloc (.cells #[.map (some b)] 77)) = W2 at *
  clear k1 k2 k3 k4 k5 k6 km f2 bl b1 b2 hk6 hbl M1 B1 B0 n0 hbm HV0
  have n0 := SB2.out.kn.cell (i := 0) (v := .int .i64 (n : Int)) rfl
  have r0 := SB2.out.kb.cell (i := 0) (v := .int .i64 r) rfl
  have r1 := SB2.out.kb.cell (i := 1) (v := .int .i64 d) rfl
  have s0 := SB2.out.ks.cell (i := 0) (v := .int .i64 s) rfl
  go_upto_region 8 with (first
    | (go_at_call 34; refine (check_any _ _ _ _).mono ?_; rw [HC.out]; rintro e w3 ⟨rfl, b3⟩; have SB3 := Lib.hid (SB2.out.below b3); have B3 := Lib.hid (bchain B2.out b3); have hz3 := b3.size; have s0 := SB3.out.ks.cell (i := 0) (v := .int .i64 s) rfl; clear b3)
    | (go_at_call 35; refine (isSlot_any _ _).mono ?_; rw [hs]; rintro e w' ⟨rfl, rfl⟩))
  clear n0 r0 r1 s0 SB2 B2 hEz hGq hB0
  have m0 := SB3.out.km.cell (i := 0) (v := .map (some b)) rfl
  go_wp2_with (first
    | (at_range; refine wpList_range_own _ rfl _ 77 rfl 84 91 kPl Tryz.underlying77 _ b _ _ rfl SB3.out.map.own ?_; intro w4 hr4 hg4 hs4))
  go_frame
  have fr4 : Fr S0 w3 w4 := Fr.of_grown hg4 (fun i e => by cases e)
  have SB4 := Lib.hid (SB3.out.fr fr4 (fun i h => h.elim))
  have B4 := Lib.hid (Fr.upB B3.out fr4 (fun i h => h.elim))
  have HR4 := Lib.hid hr4
  have HOK := Lib.hid SB3.out.map.ok
  have hbz := B3.out.size
  obtain ⟨rr, hrr⟩ : ∃ rr, rr = w3.heap.size := ⟨_, rfl⟩
  rw [← hrr] at HR4 ⊢
  have hrl : bm + 1 ≤ rr ∧ w.heap.size ≤ rr := by omega
  clear fr4 SB3 B3 hr4 hg4 hs4 hrr hz3 hz1 m0 hbz
  obtain ⟨i0, hi, hz0, hz1, hz2⟩ := info_parts (show (Tryz.prog.info? 24).map (fun i => (i.zero, i.size, i.bytes)) = some (some (.agg #[.int .i64 0, .int .i64 0]), 2, 16) by kernel_rfl)
  have HI := Lib.hid hi
  have HZ0 := Lib.hid hz0
  have HZ1 := Lib.hid hz1
  have HZ2 := Lib.hid hz2
  clear hi hz0 hz1 hz2
  go_wp2_with fail
  go_loopg [15] (Maps.size (datG CPl sdV A)) (fun gg c15 wr => ∃ (vo : Value) (left : Lit → Bool) (Q : GA), vo = c15 ∧ wr.ranges Tryz.prog 84 RV b rr A.length (datG CPl sdV A) left gg ∧ Q.Perm (lefts CPl left A) ∧ BaRow wr (rr + 1) vo (belowL Q s (r, d)) ∧ SB n r d s val A g bm b (bm + 1) wr ∧ Below w.heap.size w wr)
  case atStart =>
    refine ⟨_, _, [], rfl, HR4.out, ?_, World.ownsRow_nil _ _ _ _, SB4.out, B4.out⟩
    rw [lefts_none]
    intro q hq
    rw [datG_has kPl G2.out HOK.out q.1 (HOK.out q hq), getG_of_mem G2.out (show (q.1, q.2) ∈ A from hq)]
    rfl
  case round =>
    clear HR4 SB4 B4
    obtain ⟨vo, left, Q, rfl, hrg, hperm, hrow, hsb, hB⟩ := hrel
    have HRG := Lib.hid hrg
    have HP := Lib.hid hperm
    have ROW := Lib.hid hrow
    have SBr := Lib.hid hsb
    have B := Lib.hid hB
    have hql : Q.length ≤ 1000 := by
      rw [hperm.length_eq]
      exact Nat.le_trans (List.length_filter_le _ _) hal
    have hbl := belowL_len Q s (r, d)
    have hvo : ∀ g, vo.ownBlock = some g → rr + 1 ≤ g ∧ g < wr.heap.size := fun g hg => World.ownsRow.lt hrow g hg
    clear hrg hperm hrow hsb hB
    go_wp2_with (first
      | (at_next; refine wpList_nextG _ kPl rfl _ rfl b rr _ A G2.out HOK.out left _ rfl HRG.out ?_ ?_))
    · -- NO ENTRY IS LEFT
      intro h0 hlf
      have HQA : Hid (Q.Perm A) := by have := HP.out; rwa [lefts_all hlf] at this
      have hrw := HRG.out.lt
      clear h0 HRG HP hlf
      have HL6 : Hid ((belowL Q s (r, d)).mergeSort leBa = sortB (belowL A s (r, d))) := merge_sortB (belowL_perm HQA.out)
      go_upto_region 15 with (go_at_call 37; refine (sortBa_any (rr + 1) _ _ _ ROW.out (by omega)).mono ?_; rintro e w6 ⟨rfl, hr6, hg6⟩; have HR6 := Lib.hid hr6; have HG6 := Lib.hid hg6; clear hr6 hg6)
      have hr6 := HR6.out
      rw [HL6.out] at hr6
      have f6 : Fr (fun i => vo.ownBlock = some i) wr w6 := Fr.of_grown HG6.out (fun i e => e)
      have SB6 := Lib.hid (SBr.out.fr f6 (fun i e => by have := hvo _ e; omega))
      have B6 := Lib.hid (Fr.upB B.out f6 (fun i e => by have := hvo _ e; omega))
      have hz6 := f6.size
      obtain ⟨LS, hLS⟩ : ∃ LS, LS = sortB (belowL A s (r, d)) := ⟨_, rfl⟩
      rw [← hLS] at hr6
      have hlen6 : LS.length ≤ 1000 := by rw [hLS, (sortB_perm _).length_eq]; exact Nat.le_trans (belowL_len A s (r, d)) hal
      have hok6 : ∀ x ∈ LS, in64 x.1 ∧ in64 x.2 := fun x hx => by
        rw [hLS] at hx
        obtain ⟨p, hp, rfl⟩ := belowL_mem ((sortB_perm _).mem_iff.1 hx)
        have := HOK.out p hp
        exact ⟨this.2.1, this.2.2⟩
      have HOK6 := Lib.hid hok6
      have HLS := Lib.hid hLS
      obtain ⟨Ao, bL, capL, rfl, hat6, hbL⟩ := BaRow.at hr6 bm
      have HAT6 := Lib.hid hat6
      clear hr6 hat6 hLS hok6 HL6 HR6 HG6 f6 SBr B ROW hvo HQA hbl
      have n0 := SB6.out.kn.cell (i := 0) (v := .int .i64 (n : Int)) rfl
      have hn1 : ¬ (n : Int) < 0 := by omega
      go_upto_region 16 with fail
      have hfree := full_free ⟨n, by omega⟩
      simp only at hfree
      try rw [hfree]
      go_wp2_with (go_at_call 38; refine (backward_any _ _ ⟨_, _, _, rfl⟩).mono ?_; rintro e w' ⟨rfl, rfl⟩)
      have b7 : Below w6.heap.size w6 ((w6.alloc (.cells #[.int .u64 ((2 ^ n - 1 : Nat) : Int)] 25)).alloc (.cells #[.slice Ao LS.length capL] 82)) := (box_below w6 _).alloc (by simp) _
      have KF7 := (Blk.new w6 25 #[.int .u64 ((2 ^ n - 1 : Nat) : Int)]).alloc (.cells #[.slice Ao LS.length capL] 82)
      have KB7 := blk_at (w := w6.alloc (.cells #[.int .u64 ((2 ^ n - 1 : Nat) : Int)] 25)) 82 #[.slice Ao LS.length capL] (sz_alloc _ rfl)
      have hz7 : ((w6.alloc (.cells #[.int .u64 ((2 ^ n - 1 : Nat) : Int)] 25)).alloc (.cells #[.slice Ao LS.length capL] 82)).heap.size = w6.heap.size + 2 := by simp
      have SB7 := Lib.hid (SB6.out.below b7)
      have B7 := Lib.hid (bchain B6.out b7)
      have HAT7 : Hid (BaAt ((w6.alloc (.cells #[.int .u64 ((2 ^ n - 1 : Nat) : Int)] 25)).alloc (.cells #[.slice Ao LS.length capL] 82)) Ao bL LS) := fun h0 => ⟨(HAT6.out h0).1, fun j hj => ⟨bcell b7 ((HAT6.out h0).2 j hj).1, bcell b7 ((HAT6.out h0).2 j hj).2⟩⟩
      generalize ((w6.alloc (.cells #[.int .u64 ((2 ^ n - 1 : Nat) : Int)] 25)).alloc (.cells #[.slice Ao LS.length capL] 82)) = W7 at *
      have hsb6 := SB6.out.size
      have hlt6 := SB6.out.lt
      obtain ⟨bq, hbq⟩ : ∃ bq, bq = w6.heap.size := ⟨_, rfl⟩
      try simp only [World.size_alloc]
      rw [← hbq] at KF7 KB7 hz7 ⊢
      have hbL2 : bL < bq := by omega
      have hbb : g + 5 < bq ∧ bm < bq ∧ b < bq ∧ w.heap.size ≤ bq := by have := B6.out.size; omega
      have hrbq : rr < bq := by omega
      clear b7 SB6 B6 HAT6 n0 hbq hfree hbL hz6 hn1
      have HGd := Lib.hid HG.out
      refine wpIn_wide (n := 8) |>.1 ?_
      refine wpIn_rangeFunc_ownH rfl (by omega) (gf := 64) (lb := #[.pointer (some ⟨bq + 1, 0, none⟩)]) rfl trivial (enters_of Tryz.func64 (by kernel_rfl) rfl)
        (backward_stops Fence.wide (8 - 1) trivial rfl (by omega) (bq + 1) W7.heap.size bq bL capL Ao LS HOK6.out (by omega) ⟨by omega, by omega⟩ ⟨by omega, by omega⟩ W7 (Nat.le_refl _) (KB7.cell rfl) HAT7.out) (fun h k => h.trans k) (fun W l o o' hl _ _ _ i hi _ => putO_other o' (by omega)) (Below.refl _ _) (fun _ => rfl)
        (SafeI n A s val bq W7) (SafeX n A s val bq (g + 4) (g + 5) W7) safeI_own safeX_own ⟨⟨2 ^ n - 1, rfl, KF7⟩, Fr.refl _ _⟩
        (fun x a' W => ∃ Bx, W7.heap.size ≤ Bx ∧ Blk W Bx 24 #[.int .i64 x.2.1.1, .int .i64 x.2.1.2] ∧ a' = { tmps := #[v, .int .i64 (n : Int), .agg #[.int .i64 r, .int .i64 d], .int .i64 s, .string val, undef, .pointer (some ⟨g, 0, none⟩), .pointer (some ⟨g + 1, 0, none⟩), .pointer (some ⟨g + 2, 0, none⟩), .pointer (some ⟨g + 3, 0, none⟩), .pointer (some ⟨g + 4, 0, none⟩), .pointer (some ⟨g + 5, 0, none⟩), .pointer (some ⟨bm, 0, none⟩), .int .i64 0, .int .i64 0, .slice Ao LS.length capL, u16, .pointer (some ⟨bq, 0, none⟩), undef, .pointer (some ⟨Bx, 0, none⟩), undef, undef, undef, undef, undef, .tuple #[.map (some b), .int .i64 0, .int .i64 0], v, .int .i64 (n : Int), .tuple #[.map (some b), .int .i64 0, .int .i64 0], .map (some b), .int .i64 0, .int .i64 0, .bool false, .int .i64 0, .bool false, undef, .bool false, .agg #[.int .i64 r, .int .i64 d], .agg #[.int .i64 0, .int .i64 0], .bool false, .bool false, .agg #[.int .i64 r, .int .i64 d], .int .i64 (n : Int), .int .i64 0, .bool false, .bool false, .bool false, .int .i64 s, .bool true, .bool false, .map (some b), .pointer (some ⟨rr, 0, none⟩), .tuple #[.bool false], .bool false, u54, u55, u56, u57, u58, u59, u60, u61, u62, u63, u64, u65, u66, u67, u68, u69, u70, u71, .slice Ao LS.length capL, .tuple #[], .int .i64 (n : Int), .int .u64 (IntKind.u64.wrap ((2 : Int) ^ n)), .int .u64 ((2 ^ n - 1 : Nat) : Int), .slice Ao LS.length capL, .func (Fn.func 64) #[] #[.pointer (some ⟨bq + 1, 0, none⟩)], .int .i64 x.1, .agg #[.int .i64 x.2.1.1, .int .i64 x.2.1.2], undef, undef, undef, undef, undef, undef, undef, undef, undef, undef, undef, undef, undef, undef, undef, undef, undef, undef, undef, undef, undef, undef, undef, undef, undef, undef, undef, undef, undef, undef, undef, undef, undef, undef, undef, undef], defers := [] })
        (fun x a' _ X Y row hs hg hr => by obtain ⟨Bx, e1, e2, e3⟩ := hs; exact ⟨Bx, e1, blk_row e2 hg (fun r e => (hr r e).2), e3⟩)
        ?assign ?body ?done ?stop
      case assign =>
        rintro l pre ⟨xi, ⟨⟨xr, xd⟩, hxin⟩⟩ W K ⟨⟨f, hwk, hfr⟩, hF⟩ hK
        gi_wp2
        exact hK _ _ ((KeepsOthers.alloc _ _).from _) (fun i hi _ => Below.heap_alloc _ _ i (Nat.lt_of_lt_of_le hi hF.size)) ⟨⟨f, hwk, hfr.alloc _⟩, hF.trans' (S := S1 bq) (T := S0) (Fr.of_below (box_below W _)) (fun _ _ h => h.elim)⟩ ⟨W.heap.size, hF.size, Blk.new W _ _, rfl⟩
      case body =>
        rintro l pre ⟨xi, ⟨⟨xr, xd⟩, hxin⟩⟩ a' W hl ⟨rc, hrc⟩ ⟨⟨f, hwk, hfr⟩, hF⟩ ⟨Bx, hBx, bX, rfl⟩ hlt
        have hn128 : 2 ^ n ≤ 128 := Nat.le_trans (Nat.pow_le_pow_right (by decide) hn.2) (by decide)
        have hpos : 0 < 2 ^ n := Nat.two_pow_pos n
        have hfl : f < 2 ^ n := by have := walkS_le hwk; omega
        obtain ⟨⟨sv, sn⟩, hsd⟩ : ∃ e, sdOf A s (xr, xd) = e := ⟨_, rfl⟩
        have hsn : sn < 128 := by have := sd_lt (s := s) (b := (xr, xd)) hn G1.out; rw [hsd] at this; exact this
        have c0 := hF.cell (p := ⟨bm, 0, none⟩) (fun e => by have e : bm = bq := e; omega) (SB7.out.km.cell (i := 0) (v := .map (some b)) rfl)
        have c1 := hF.cell (p := ⟨g, 0, none⟩) (fun e => by have e : g = bq := e; omega) (SB7.out.kn.cell (i := 0) (v := .int .i64 (n : Int)) rfl)
        have c2 := hF.cell (p := ⟨g + 2, 0, none⟩) (fun e => by have e : g + 2 = bq := e; omega) (SB7.out.ks.cell (i := 0) (v := .int .i64 s) rfl)
        have x0 := bX.cell (i := 0) (v := .int .i64 xr) rfl
        have x1 := bX.cell (i := 1) (v := .int .i64 xd) rfl
        have f0 := hfr.cell (i := 0) (v := .int .u64 (f : Int)) rfl
        have hsr : 0 ≤ s ∧ s < 4096 := by simpa using hs
        have hlk : (Instr.lookup 77 (.map (some b)) (.agg #[.int .i64 s, .int .i64 xr, .int .i64 xd]) false).run Tryz.prog W = .ok (.agg #[.string sv, .int .u64 (sn : Int)]) W := by
          have h1 := lookG_run W kPl 77 91 Tryz.underlying77 (sdV (⟨#[]⟩, 0)) (zeroSd W) b A (SB7.out.map.fr hF (fun e => by have e : b = bq := e; omega)) (s, xr, xd) ⟨by unfold in64; simp only; omega, hxin.1, hxin.2⟩
          have h2 : ((getG (s, xr, xd) A).map sdV).getD (sdV (⟨#[]⟩, 0)) = sdV (sv, sn) := by
            rw [← hsd]
            unfold sdOf
            cases getG (s, xr, xd) A <;> rfl
          rw [h2] at h1
          exact h1
        have hbp : ∀ w : World, (Instr.build 84 #[(0, .int .i64 s), (1, .agg #[.int .i64 xr, .int .i64 xd])]).run Tryz.prog w = .ok (plV (s, xr, xd)) w := fun w => bldPl s xr xd w
        obtain ⟨k, hk⟩ : ∃ k, k = sn &&& f := ⟨_, rfl⟩
        have hand : bits BinOp.and IntKind.u64 (sn : Int) (f : Int) = (k : Int) := by rw [hk]; exact bitsAnd ⟨sn, hsn⟩ ⟨f, by omega⟩
        have hnot : bits BinOp.andNot IntKind.u64 (f : Int) (sn : Int) = ((f &&& (sn ^^^ 127) : Nat) : Int) := bitsAndNot ⟨f, by omega⟩ ⟨sn, hsn⟩
        have b8 := box_below W (.cells #[.string sv, .int .u64 (sn : Int)] 91)
        have K8 := Lib.hid (Blk.new W 91 #[.string sv, .int .u64 (sn : Int)])
        have B8 := Lib.hid b8
        have c1' := bcell b8 c1
        have f0' := bcell b8 f0
        have HF := Lib.hid hF
        have HFR := Lib.hid hfr
        have HWK := Lib.hid hwk
        have HSD := Lib.hid hsd
        have hcond : condS n A s val f (xr, xd) = (maj f n && (decide (k ≠ 0) && decide (sv.data.toList = val.data.toList))) := by unfold condS; rw [hsd, hk]
        have HCO := Lib.hid hcond
        have hbw : bq < W.heap.size := hfr.lt
        clear b8 hF hfr hwk hsd hcond hk hpos bX hsr
        cases hm : maj f n with
        | false =>
          have hco : condS n A s val f (xr, xd) = false := by rw [HCO.out, hm]; rfl
          have HC2 := Lib.hid hco
          clear hco
          gi_wp2_with (refine ⟨trivial, ?_⟩; gi_at_call 39; refine (CallsIn.inRound l (callsIn_wide.2 (is_any n f _ hn hfl))).mono ?_; rw [hm]; rintro e w9 ⟨rfl, b9⟩; have B9 := Lib.hid (bchain B8.out b9); have K9 := K8.out.fr (Fr.of_below b9 : Fr S0 _ _) (fun h => h); have y0 := K9.cell (i := 0) (v := .string sv) rfl; have y1 := K9.cell (i := 1) (v := .int .u64 (sn : Int)) rfl; have KF9 := HFR.out.fr (Fr.of_below B9.out : Fr S0 _ _) (fun h => h); have f9 := KF9.cell (i := 0) (v := .int .u64 (f : Int)) rfl; have ff := KF9.frozen 0; clear b9 KF9 K9)
          have h1 := round_on (x := (xi, ⟨(xr, xd), hxin⟩)) HWK.out HC2.out HF.out HFR.out (by omega) B9.out
          simp only [HSD.out] at h1
          exact h1
        | true =>
          by_cases hk0 : k = 0
          · have hco : condS n A s val f (xr, xd) = false := by rw [HCO.out, hm, hk0]; simp
            have HC2 := Lib.hid hco
            have hand0 : bits BinOp.and IntKind.u64 (sn : Int) (f : Int) = 0 := by rw [hand, hk0]; rfl
            clear hco hand hk0
            gi_wp2_with (refine ⟨trivial, ?_⟩; gi_at_call 39; refine (CallsIn.inRound l (callsIn_wide.2 (is_any n f _ hn hfl))).mono ?_; rw [hm]; rintro e w9 ⟨rfl, b9⟩; have B9 := Lib.hid (bchain B8.out b9); have K9 := K8.out.fr (Fr.of_below b9 : Fr S0 _ _) (fun h => h); have y0 := K9.cell (i := 0) (v := .string sv) rfl; have y1 := K9.cell (i := 1) (v := .int .u64 (sn : Int)) rfl; have KF9 := HFR.out.fr (Fr.of_below B9.out : Fr S0 _ _) (fun h => h); have f9 := KF9.cell (i := 0) (v := .int .u64 (f : Int)) rfl; have ff := KF9.frozen 0; clear b9 KF9 K9)
            have h1 := round_on (x := (xi, ⟨(xr, xd), hxin⟩)) HWK.out HC2.out HF.out HFR.out (by omega) B9.out
            simp only [HSD.out] at h1
            exact h1
          · have hk1 : ((k : Int) == 0) = false := by simpa using hk0
            have hk2 : decide ((k : Int) = 0) = false := by simpa using hk0
            have hk3 : ¬ (k : Int) = 0 := by omega
            by_cases hv : sv = val
            · subst hv
              have hco : condS n A s sv f (xr, xd) = true := by rw [HCO.out, hm]; simp [hk0]
              have HC2 := Lib.hid hco
              clear hco hk0
              gi_wp2_with (refine ⟨trivial, ?_⟩; gi_at_call 39; refine (CallsIn.inRound l (callsIn_wide.2 (is_any n f _ hn hfl))).mono ?_; rw [hm]; rintro e w9 ⟨rfl, b9⟩; have B9 := Lib.hid (bchain B8.out b9); have K9 := K8.out.fr (Fr.of_below b9 : Fr S0 _ _) (fun h => h); have y0 := K9.cell (i := 0) (v := .string sv) rfl; have y1 := K9.cell (i := 1) (v := .int .u64 (sn : Int)) rfl; have KF9 := HFR.out.fr (Fr.of_below B9.out : Fr S0 _ _) (fun h => h); have f9 := KF9.cell (i := 0) (v := .int .u64 (f : Int)) rfl; have ff := KF9.frozen 0; have F9 := frB HF.out B9.out; have v9 := (SB7.out.kv.fr F9 (fun e => by have e : g + 3 = bq := e; omega)).cell (i := 0) (v := .string sv) rfl; have KR9 := SB7.out.kr.fr F9 (fun e => by have e : g + 4 = bq := e; omega); have KE9 := SB7.out.ke.fr F9 (fun e => by have e : g + 5 = bq := e; omega); have r9 := KR9.cell (i := 0) (v := .bool false) rfl; have rf := KR9.frozen 0; have KE10 := KE9.setOther (p := ⟨g + 4, 0, none⟩) (by show g + 5 ≠ g + 4; omega) (.bool true); have e10 := KE10.cell (i := 0) (v := .int .i64 0) rfl; have ef := KE10.frozen 0; have HKR := Lib.hid KR9; have HKE := Lib.hid KE9; clear KR9 KE9 KE10; clear F9; clear b9 KF9 K9)
              exact round_out (x := (xi, ⟨(xr, xd), hxin⟩)) HWK.out HC2.out HF.out B9.out HKR.out HKE.out (by omega)
            · have hco : condS n A s val f (xr, xd) = false := by
                rw [HCO.out, hm]
                have : ¬ sv.data.toList = val.data.toList := fun e => hv (toList_dat e)
                simp [this]
              have HC2 := Lib.hid hco
              have hv1 : (sv.toList == val.toList) = false := by rw [str_eq]; simpa using hv
              clear hco hk0 hv
              gi_wp2_with (refine ⟨trivial, ?_⟩; gi_at_call 39; refine (CallsIn.inRound l (callsIn_wide.2 (is_any n f _ hn hfl))).mono ?_; rw [hm]; rintro e w9 ⟨rfl, b9⟩; have B9 := Lib.hid (bchain B8.out b9); have K9 := K8.out.fr (Fr.of_below b9 : Fr S0 _ _) (fun h => h); have y0 := K9.cell (i := 0) (v := .string sv) rfl; have y1 := K9.cell (i := 1) (v := .int .u64 (sn : Int)) rfl; have KF9 := HFR.out.fr (Fr.of_below B9.out : Fr S0 _ _) (fun h => h); have f9 := KF9.cell (i := 0) (v := .int .u64 (f : Int)) rfl; have ff := KF9.frozen 0; have F9 := frB HF.out B9.out; have v9 := (SB7.out.kv.fr F9 (fun e => by have e : g + 3 = bq := e; omega)).cell (i := 0) (v := .string val) rfl; clear F9; clear b9 KF9 K9)
              have h1 := round_on (x := (xi, ⟨(xr, xd), hxin⟩)) HWK.out HC2.out HF.out HFR.out (by omega) B9.out
              simp only [HSD.out] at h1
              exact h1
      case done =>
        rintro D ys W hD rfl ⟨⟨f, hwk, hfr⟩, hF⟩ hK
        have hfl : f < 2 ^ n := by have := walkS_le hwk; have := Nat.two_pow_pos n; omega
        rw [bk_map HOK6.out (Nat.le_refl _), List.take_of_length_le (by simp)] at hwk
        have HR : Hid (safeL n A s val LS.reverse = maj f n) := by rw [Hid]; unfold safeL; rw [hwk]
        have hsb := SB7.out.lt
        have c1 := hF.cell (p := ⟨g, 0, none⟩) (fun e => by have e : g = bq := e; omega) (SB7.out.kn.cell (i := 0) (v := .int .i64 (n : Int)) rfl)
        have f0 := hfr.cell (i := 0) (v := .int .u64 (f : Int)) rfl
        have HF := Lib.hid hF
        have HK2 := Lib.hid hK
        clear hwk hfr hF hK
        go_wp2_with (go_at_call 39; refine (is_any n f _ hn hfl).mono ?_; rintro e w9 ⟨rfl, b9⟩; have B9 := Lib.hid b9; have F9 := frB HF.out b9; have KR9 := SB7.out.kr.fr F9 (fun e => by have e : g + 4 = bq := e; omega); have KE9 := SB7.out.ke.fr F9 (fun e => by have e : g + 5 = bq := e; omega); have r9 := KR9.cell (i := 0) (v := .bool false) rfl; have rf := KR9.frozen 0; have KE10 := KE9.setOther (p := ⟨g + 4, 0, none⟩) (by show g + 5 ≠ g + 4; omega) (.bool (maj f n)); have e10 := KE10.cell (i := 0) (v := .int .i64 0) rfl; have ef := KE10.frozen 0; have HKR := Lib.hid KR9; have HKE := Lib.hid KE9; clear KR9 KE9 KE10 F9 b9)
        have hz7 : g + 5 < W7.heap.size := by omega
        have hDw : D < W.heap.size := (Array.getElem?_eq_some_iff.1 HK2.out).1
        have hKF : ((w9.setCell ⟨g + 4, 0, none⟩ (.bool (maj f n))).setCell ⟨g + 5, 0, none⟩ (.int .i64 0)).heap[D]? = some (.deferred (some [])) := by
          rw [Below.heap_setCell _ ⟨g + 5, 0, none⟩ _ D (by show D ≠ g + 5; omega), Below.heap_setCell _ ⟨g + 4, 0, none⟩ _ D (by show D ≠ g + 4; omega), B9.out.block D hDw]
          exact HK2.out
        have FF : Fr (S3q bq (g + 4) (g + 5)) W7 ((w9.setCell ⟨g + 4, 0, none⟩ (.bool (maj f n))).setCell ⟨g + 5, 0, none⟩ (.int .i64 0)) :=
          (((frB HF.out B9.out).mono (S' := S3q bq (g + 4) (g + 5)) (fun i e => .inl e)).setCell (p := ⟨g + 4, 0, none⟩) (.inl (.inr (.inl rfl))) _).setCell (p := ⟨g + 5, 0, none⟩) (.inl (.inr (.inr rfl))) _
        have KRF := (HKR.out.set 0 (.bool (maj f n))).setOther (p := ⟨g + 5, 0, none⟩) (by show g + 4 ≠ g + 5; omega) (.int .i64 0)
        have KEF := (HKE.out.setOther (p := ⟨g + 4, 0, none⟩) (by show g + 5 ≠ g + 4; omega) (.bool (maj f n))).set 0 (.int .i64 0)
        have q4 := (KRF.of_block (putO_other (l := D) (.deferred none) (by omega))).cell (i := 0) (v := .bool (maj f n)) rfl
        have q5 := (KEF.of_block (putO_other (l := D) (.deferred none) (by omega))).cell (i := 0) (v := .int .i64 0) rfl
        refine ⟨by simp, .inl ⟨_, _, rfl, run_takeDeferred hKF, ?_⟩⟩
        refine ⟨.tuple #[.bool (maj f n), .int .i64 0], ?_, by rw [← HLS.out, HR.out], (Fr.upB B7.out FF (fun i e => by rcases e with e | e | e <;> omega)).trans (belowK_b (w := W7) (n₀ := w.heap.size) B7.out.size _ D _ _ hD hKF rfl rfl)⟩
        simp [results, Tryz.f10, go_sem, q4, q5]
      case stop =>
        rintro D c pre W hD ⟨k, hk, rfl⟩ ⟨rfl, hnone, hF, kr, ke⟩ hK
        rw [bk_map HOK6.out hk] at hnone
        have HR : Hid (safeL n A s val LS.reverse = true) := by
          rw [Hid]
          unfold safeL
          have h1 := walkS_none (q := LS.reverse.drop k) hnone
          rw [List.take_append_drop] at h1
          rw [h1]
        have c4 := kr.cell (i := 0) (v := .bool true) rfl
        have c5 := ke.cell (i := 0) (v := .int .i64 0) rfl
        gi_wp2
        have hsb := SB7.out.lt
        have hz7 : g + 5 < W7.heap.size := by omega
        have q4 := (kr.of_block (putO_other (l := D) (.deferred none) (by omega))).cell (i := 0) (v := .bool true) rfl
        have q5 := (ke.of_block (putO_other (l := D) (.deferred none) (by omega))).cell (i := 0) (v := .int .i64 0) rfl
        refine ⟨by simp, .inl ⟨_, _, rfl, run_takeDeferred hK, ?_⟩⟩
        refine ⟨.tuple #[.bool true, .int .i64 0], ?_, by rw [← HLS.out, HR.out], (Fr.upB B7.out hF (fun i e => by rcases e with e | e | e <;> omega)).trans (belowK_b (w := W7) (n₀ := w.heap.size) B7.out.size _ D _ _ hD hK rfl rfl)⟩
        simp [results, Tryz.f10, go_sem, q4, q5]
    · -- AN ENTRY
      rintro sl pr pd xv xn w5 cnt1 hok hlx hat hrg1 hlt hg5 hs5 hen
      have f1 : Fr (S1 rr) wr w5 := Fr.of_grown hg5 (fun i e => by cases e; rfl)
      have SB5 := Lib.hid (SBr.out.fr f1 (fun i e => by have e : i = rr := e; omega))
      have B5 := Lib.hid (Fr.upB B.out f1 (fun i e => by have e : i = rr := e; omega))
      have ROW5 : Hid (BaRow w5 (rr + 1) vo (belowL Q s (r, d))) := World.ownsRow.kept ROW.out hg5 (.inr (by intro e; have := hvo _ e; omega))
      have HRG5 := Lib.hid hrg1
      have HP5 : Hid ((Q ++ [((sl, pr, pd), (xv, xn))]).Perm (lefts CPl (fun z => left z && !z.sameKey (CPl.lit (sl, pr, pd))) A)) :=
        (List.Perm.append_right _ HP.out).trans (lefts_step kPl G2.out HOK.out (getG_mem hat) hlx).symm
      have HCL : Hid (cnt1 < gk) := hlt
      have hvo5 : ∀ g, vo.ownBlock = some g → rr + 1 ≤ g ∧ g < w5.heap.size := fun g hg => by have := hvo g hg; omega
      have hen1 : (Instr.entry (.pointer (some ⟨rr, 0, none⟩))).run Tryz.prog w5 = .ok (.tuple #[.agg #[.int .i64 sl, .int .i64 pr, .int .i64 pd], .agg #[.string xv, .int .u64 (xn : Int)]]) w5 := hen
      have hrw5 : rr < w5.heap.size := HRG5.out.lt
      clear hen f1 hrg1 hlt hg5 hs5 hat hlx hok HP HRG SBr B ROW hvo
      dsimp only [CPl, plV, sdV]
      go_upto_region 12 with fail
      have hbx : Below w5.heap.size w5 (w5.alloc (.cells #[.int .i64 sl, .int .i64 pr, .int .i64 pd] 84)) := box_below w5 _
      have KX := Lib.hid (Blk.new w5 84 #[.int .i64 sl, .int .i64 pr, .int .i64 pd])
      have SB6 := Lib.hid (SB5.out.below hbx)
      have B6 := Lib.hid (bchain B5.out hbx)
      have ROW6 : Hid (BaRow _ (rr + 1) vo (belowL Q s (r, d))) := World.ownsRow.alloc ROW5.out (.cells #[.int .i64 sl, .int .i64 pr, .int .i64 pd] 84)
      have HRG6 := Lib.hid (HRG5.out.alloc (.cells #[.int .i64 sl, .int .i64 pr, .int .i64 pd] 84))
      have hvo6 : ∀ g, vo.ownBlock = some g → rr + 1 ≤ g ∧ g < (w5.alloc (.cells #[.int .i64 sl, .int .i64 pr, .int .i64 pd] 84)).heap.size := fun g hg => by have := hvo5 g hg; rw [World.size_alloc]; omega
      have hrw6 : rr + 1 < (w5.alloc (.cells #[.int .i64 sl, .int .i64 pr, .int .i64 pd] 84)).heap.size := by rw [World.size_alloc]; omega
      generalize (w5.alloc (.cells #[.int .i64 sl, .int .i64 pr, .int .i64 pd] 84)) = W6 at *
      obtain ⟨bx, hbxe⟩ : ∃ bx, bx = w5.heap.size := ⟨_, rfl⟩
      rw [← hbxe] at KX ⊢
      clear hbx SB5 B5 ROW5 HRG5 hen1 hvo5 hbxe hrw5
      have x0 := KX.out.cell (i := 0) (v := .int .i64 sl) rfl
      have x1 := KX.out.cell (i := 1) (v := .int .i64 pr) rfl
      have x2 := KX.out.cell (i := 2) (v := .int .i64 pd) rfl
      have s0 := SB6.out.ks.cell (i := 0) (v := .int .i64 s) rfl
      have r0 := SB6.out.kb.cell (i := 0) (v := .int .i64 r) rfl
      have r1 := SB6.out.kb.cell (i := 1) (v := .int .i64 d) rfl
      go_cut [66] from 52 to 71 (fun c wx => c = .bool (decide (sl = s) && decide (ordB (pr, pd) (r, d) < 0)) ∧ Below W6.heap.size W6 wx)
      case first =>
        cases he : (sl == s) with
        | false =>
          have hd : decide (sl = s) = false := by simpa using he
          go_wp2_with fail
          go_meet
          exact ⟨by rw [hd]; rfl, Below.refl _ _⟩
        | true =>
          have hd : decide (sl = s) = true := by simpa using he
          have HD := Lib.hid hd
          clear hd
          go_wp2_with (go_at_call 36; refine (order_any _ _ _ _ _).mono ?_; rintro e w7 ⟨rfl, b7⟩)
          go_meet
          exact ⟨by rw [HD.out]; rfl, b7⟩
      case rest =>
      obtain ⟨rfl, hb7⟩ := hcut
      have SB7 := Lib.hid (SB6.out.below hb7)
      have B7 := Lib.hid (bchain B6.out hb7)
      have KX7 := Lib.hid (KX.out.fr (Fr.of_below hb7 : Fr S0 _ _) (fun h => h))
      have ROW7 : Hid (BaRow wc (rr + 1) vo (belowL Q s (r, d))) := World.ownsRow.kept ROW6.out (grown_of hb7 none) (by by_cases h : vo.ownBlock = none; exact .inl h; exact .inr h)
      have HRG7 := Lib.hid (HRG6.out.kept (grown_of hb7 none) (by simp) (by simp))
      have hvo7 : ∀ g, vo.ownBlock = some g → rr + 1 ≤ g ∧ g < wc.heap.size := fun g hg => by have := hvo6 g hg; have := hb7.size; omega
      have hrw7 : rr + 1 < wc.heap.size := by have := hb7.size; omega
      clear SB6 B6 KX ROW6 HRG6 hvo6 x0 x1 x2 s0 r0 r1 hb7 hrw6
      cases hcc : (decide (sl = s) && decide (ordB (pr, pd) (r, d) < 0)) with
      | false =>
        have HSN : Hid (belowL (Q ++ [((sl, pr, pd), (xv, xn))]) s (r, d) = belowL Q s (r, d)) := by rw [Hid, belowL_snoc, if_neg (by rw [hcc]; simp)]
        go_wp2_with fail
        go_roundg cnt1
        case measure => exact HCL.out
        case rel => exact ⟨vo, _, _, rfl, HRG7.out, HP5.out, by rw [HSN.out]; exact ROW7.out, SB7.out, B7.out⟩
      | true =>
        have HSN : Hid (belowL (Q ++ [((sl, pr, pd), (xv, xn))]) s (r, d) = belowL Q s (r, d) ++ [(pr, pd)]) := by rw [Hid, belowL_snoc, if_pos hcc]
        have x1 := KX7.out.cell (i := 1) (v := .int .i64 pr) rfl
        have x2 := KX7.out.cell (i := 2) (v := .int .i64 pd) rfl
        go_wp2_with (first
          | (at_builtin; refine wpList_append_own_at _ rfl _ _ 82 rfl (rr + 1) 24 i0 (.agg #[.int .i64 0, .int .i64 0]) 2 16 Tryz.underlying82 HI.out HZ0.out HZ1.out HZ2.out rfl (by decide) _ _ _ rfl (World.ownsRow.alloc ROW7.out _) ⟨wc.heap.size, 0, none⟩ 1 1 [.int .i64 pr, .int .i64 pd] rfl rfl (cells_new _ _ _) (by simp [Value.oneCell']) (by unfold maxLen; omega) (by omega) (by simp; omega) ?_; intro v' w8 hown' hgrow _ hoa; have HOWN := Lib.hid hown'; have HGR := Lib.hid hgrow; clear hown' hgrow hoa))
        have bl := box_below wc (.cells #[.int .i64 pr, .int .i64 pd] 24)
        have f8 : Fr (fun i => vo.ownBlock = some i) (wc.alloc (.cells #[.int .i64 pr, .int .i64 pd] 24)) w8 := Fr.of_grown HGR.out (fun i e => e)
        have ROW8 : Hid (BaRow w8 (rr + 1) v' (belowL (Q ++ [((sl, pr, pd), (xv, xn))]) s (r, d))) := by
          rw [Hid, HSN.out]
          unfold BaRow
          rw [List.length_append]
          have e1 : flat encBa (belowL Q s (r, d) ++ [(pr, pd)]) = flat encBa (belowL Q s (r, d)) ++ [.int .i64 pr, .int .i64 pd] := by unfold flat; rw [List.flatMap_append]; rfl
          rw [e1]
          exact HOWN.out
        go_roundg cnt1
        case measure => exact HCL.out
        case rel => exact ⟨v', _, _, rfl, (HRG7.out.alloc _).kept HGR.out (fun e => by have := hvo7 _ e.symm; have := SB7.out.lt; omega) (fun e => by have := hvo7 _ e.symm; omega), HP5.out, ROW8.out, (SB7.out.below bl).fr f8 (fun i e => by have := hvo7 _ e; omega), Fr.upB (bchain B7.out bl) f8 (fun i e => by have := hvo7 _ e; omega)⟩
end Go.Proofs.YthkdmpalhdifbaaGreatDoor
