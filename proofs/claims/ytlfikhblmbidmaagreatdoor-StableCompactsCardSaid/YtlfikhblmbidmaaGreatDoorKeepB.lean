/- StableKeeps: deeds as an argument; fresh, same, do. -/
import Derived.Test.YtlfikhblmbidmaaGreatDoorKeepA
import Derived.Test.YtlfikhblmbidmaaGreatDoorEqL
import Derived.Test.YtlfikhblmbidmaaGreatDoorLongP
import Derived.Test.YtlfikhblmbidmaaGreatDoorTabF
set_option linter.unusedVariables false
set_option linter.unusedSimpArgs false
namespace Go.Proofs.YtlfikhblmbidmaaGreatDoor
open Go.RowKit Go.Maps Go.Shelf Go.ChangeShapes Go.WideShapes Go.Deep

/-- The value v is the slice of the deeds L. -/
def DeedsIn (w : World) (v : Value) (L : List Dd) : Prop :=
  ∃ A cap, v = .slice A L.length cap ∧ L.length ≤ cap ∧ cap ≤ maxLen ∧ (∀ s ∈ L, okDd s) ∧
    (0 < L.length → ∃ b off, A = some ⟨b, off, none⟩ ∧ b < w.heap.size ∧ ∀ i s, L[i]? = some s → ∀ j u, (ddC s)[j]? = some u → w.cell? ⟨b, off + i * 5 + j, none⟩ = some u)
section
variable {H : Type} {enc : TypeId × Value → H} {w : World} {base n : Nat} {spare : Nat → Bool} {held : Bool} {cs : List Value} {x : DataW H × List MemPlace}
set_option maxRecDepth 100000 in
theorem dd_open (ht : DataW.trod enc Tryz.prog w base spare held n 83 cs = some x) : ∃ s : Dd, cs = (ddC s).toList ∧ okDd s := by
  obtain ⟨ys, k, _, _, hlen, hyl, hf⟩ := DataW.trod_struct Tryz.underlying83 ht
  rw [show Tryz.prog.cellsOf 83 = 5 by kernel_rfl] at hlen
  have hyl : ys.length = 5 := hyl
  match cs, hlen with
  | [c0, c1, c2, c3, c4], _ =>
    match ys, hyl with
    | [y0, y1, y2, y3, y4], _ =>
      have h0 : DataW.trod enc Tryz.prog w base spare held k 5 [c0] = some y0 := hf 0 _ rfl
      have h1 : DataW.trod enc Tryz.prog w base spare held k 5 [c1] = some y1 := hf 1 _ rfl
      have h2 : DataW.trod enc Tryz.prog w base spare held k 5 [c2] = some y2 := hf 2 _ rfl
      have h3 : DataW.trod enc Tryz.prog w base spare held k 5 [c3] = some y3 := hf 3 _ rfl
      have h4 : DataW.trod enc Tryz.prog w base spare held k 5 [c4] = some y4 := hf 4 _ rfl
      obtain ⟨z0, e0, _, w0⟩ := DataW.trod_int Tryz.underlying5 h0
      obtain ⟨z1, e1, _, w1⟩ := DataW.trod_int Tryz.underlying5 h1
      obtain ⟨z2, e2, _, w2⟩ := DataW.trod_int Tryz.underlying5 h2
      obtain ⟨z3, e3, _, w3⟩ := DataW.trod_int Tryz.underlying5 h3
      obtain ⟨z4, e4, _, w4⟩ := DataW.trod_int Tryz.underlying5 h4
      cases e0
      cases e1
      cases e2
      cases e3
      cases e4
      have b0 := u8_wf w0
      have b1 := u8_wf w1
      have b2 := u8_wf w2
      have b3 := u8_wf w3
      have b4 := u8_wf w4
      refine ⟨(z0.toNat, z1.toNat, z2.toNat, z3.toNat, z4.toNat), ?_, ⟨by show z0.toNat < 256; omega, by show z1.toNat < 256; omega, by show z2.toNat < 256; omega, by show z3.toNat < 256; omega, by show z4.toNat < 256; omega⟩⟩
      simp [Int.toNat_of_nonneg b0.1, Int.toNat_of_nonneg b1.1, Int.toNat_of_nonneg b2.1, Int.toNat_of_nonneg b3.1, Int.toNat_of_nonneg b4.1]
end
theorem DeedsIn.of_trod {H : Type} {enc : TypeId × Value → H} {w : World} {base : Nat} {spare : Nat → Bool} {held : Bool} {a0 : Option Addr} {len0 cap0 : Nat} {d : DataW H} {p : List MemPlace}
    (h : DataW.Trod enc Tryz.prog w base spare held 81 (.slice a0 len0 cap0) d p) : ∃ L, DeedsIn w (.slice a0 len0 cap0) L := by
  obtain ⟨fuel, hf⟩ := h
  rcases open_slice Tryz.underlying81 hf with ⟨hcs, _⟩ | ⟨a, len, cap, m, n, D, Pl, hcs, hb, hl, hm, hmm, _, hi⟩
  · simp [Value.cells] at hcs
    obtain ⟨rfl, rfl, rfl⟩ := hcs
    exact ⟨[], none, 0, rfl, Nat.le_refl _, Nat.zero_le _, fun s hs => by simp at hs, fun h => absurd h (by simp)⟩
  · simp [Value.cells] at hcs
    obtain ⟨rfl, rfl, rfl⟩ := hcs
    have hlm : len0 ≤ m := by rw [hmm]; split <;> omega
    have hall : ∀ i, i < len0 → ∃ s : Dd, okDd s ∧ ∀ j u, (ddC s)[j]? = some u → w.cell? (a.add (i * 5 + j)) = some u := by
      intro i hi'
      obtain ⟨cs, hc, ht⟩ := hi i (by omega)
      rw [show Tryz.prog.cellsOf 83 = 5 by kernel_rfl] at hc
      obtain ⟨s, rfl, hs⟩ := dd_open ht
      obtain ⟨_, hl5, hcell⟩ := World.cells?_some hc
      refine ⟨s, hs, fun j u hu => ?_⟩
      have hj : j < 5 := (Array.getElem?_eq_some_iff.1 hu).1
      rw [← add_of_add, hcell j hj]
      simpa using hu
    obtain ⟨f, hf1⟩ : ∃ f : Nat → Dd, ∀ i, i < len0 → okDd (f i) ∧ ∀ j u, (ddC (f i))[j]? = some u → w.cell? (a.add (i * 5 + j)) = some u :=
      ⟨fun i => if h : i < len0 then Classical.choose (hall i h) else default, fun i hi => by simp only [dif_pos hi]; exact Classical.choose_spec (hall i hi)⟩
    have hlen : ((List.range len0).map f).length = len0 := by simp
    refine ⟨(List.range len0).map f, some a, cap0, by rw [hlen], by rw [hlen]; exact hl, hm, fun s hs => ?_, fun h0 => ?_⟩
    · simp only [List.mem_map, List.mem_range] at hs
      obtain ⟨i, hi', rfl⟩ := hs
      exact (hf1 i hi').1
    · rw [hlen] at h0
      obtain ⟨b, off, spot⟩ := a
      have h1 := (hf1 0 h0).2 0 _ rfl
      have hspot : spot = none := by simpa [Addr.add] using World.cell?_spot h1
      subst hspot
      refine ⟨b, off, rfl, ?_, fun i s hs j u hu => ?_⟩
      · obtain ⟨o, ho, _⟩ := cells_of_cell h1
        have := (Array.getElem?_eq_some_iff.1 ho).1
        simpa [Addr.add] using this
      · simp only [List.getElem?_map, Option.map_eq_some_iff] at hs
        obtain ⟨i', hi', rfl⟩ := hs
        obtain ⟨hi2, rfl⟩ := List.getElem?_eq_some_iff.1 hi'
        simp only [List.length_range] at hi2
        simp only [List.getElem_range] at hu
        have := (hf1 i hi2).2 j u hu
        rw [add_flat] at this
        rwa [Nat.add_assoc]
theorem DeedsIn.below {w w' : World} {v : Value} {L : List Dd} (h : DeedsIn w v L) (hb : Below w.heap.size w w') : DeedsIn w' v L := by
  obtain ⟨A, cap, h1, h2, h3, h4, h5⟩ := h
  refine ⟨A, cap, h1, h2, h3, h4, fun h0 => ?_⟩
  obtain ⟨b, off, k1, k2, k3⟩ := h5 h0
  exact ⟨b, off, k1, Nat.lt_of_lt_of_le k2 hb.size, fun i s hs j u hu => bcell hb (k3 i s hs j u hu)⟩

theorem lgapsF_len (L : VL) : ∀ (n : Nat) (u : Int), (lgapsF L u n).length ≤ n
  | 0, _ => Nat.le_refl _
  | n + 1, u => by
    have := lgapsF_len L n (u + 1)
    rw [lgapsF, List.length_append]
    split <;> simp <;> omega
theorem lpre_len (L : VL) : ∀ (n : Nat) (u : Int), (lpre L u n).length ≤ n
  | 0, _ => Nat.le_refl _
  | n + 1, u => by
    have := lpre_len L n (u + 1)
    rw [lpre]
    cases get u L <;> simp <;> omega
theorem lgaps_len {s : LogSt} (h : LGood s) : (lgaps s).length ≤ 4096 := by
  have := lgapsF_len s.L (s.top - s.upto).toNat s.upto
  have := h.t1
  have := h.bu
  have := h.b0
  unfold lgaps
  omega
theorem lprefix_len {s : LogSt} (h : LGood s) : (lprefix s).length ≤ 4096 := by
  have := lpre_len s.L (s.top - s.base).toNat s.base
  have := h.t1
  have := h.b0
  unfold lprefix
  omega
/-- A node at np, and its disk: its records lead from t0 to t. -/
abbrev sK (b st : List UInt8) (has : Bool) : DSt := ⟨b, b.length, st, has⟩
structure KSt (w0 w : World) (np a m l k p q : Nat) (v sv : Value) (t0 t : NSt) (b st : List UInt8) (has : Bool) : Prop where
  blk : Blk w np 89 (ndC a l p)
  ns : NS w a m l k t
  dk : DkB w0 p q v sv (sK b st has) w
  hist : Hist t0 t b
  st : st.length ≤ 65536
  lo : ∀ i, nF a m l k i → w0.heap.size ≤ i
  nlo : w0.heap.size ≤ np
theorem nd_nF {w : World} {np a m l k : Nat} {t : NSt} {cs : Array Value} (hb : Blk w np 89 cs) (hn : NS w a m l k t) : ¬ nF a m l k np := fun e => by
  rcases e with e | e | e | e
  · exact hb.ne_type hn.a.at_.blk (by decide) e
  · obtain ⟨es, c, hm⟩ := hn.a.at_.map.block
    exact hb.ne_map hm e
  · exact hb.ne_type hn.l.at_.blk (by decide) e
  · obtain ⟨es, c, hm⟩ := hn.l.at_.map.block
    exact hb.ne_map hm e
theorem sK_good {b st : List UInt8} {has : Bool} (h : b.length ≤ 16777216) (hs : st.length ≤ 65536) : DGood (sK b st has) := ⟨Nat.le_refl _, h, hs⟩
namespace KSt
variable {w0 w w' : World} {np a m l k p q : Nat} {v sv : Value} {t0 t t' : NSt} {b st : List UInt8} {has : Bool}
theorem below (h : KSt w0 w np a m l k p q v sv t0 t b st has) (hb : Below w.heap.size w w') : KSt w0 w' np a m l k p q v sv t0 t b st has :=
  ⟨h.blk.of_block (hb.block _ h.blk.lt), h.ns.below hb, h.dk.below hb, h.hist, h.st, h.lo, h.nlo⟩
/-- Something is done to the node alone. -/
theorem wrote (h : KSt w0 w np a m l k p q v sv t0 t b st has) {X Y : World} {v' : Value} {x : Rec} (hx : x.Ok) (hl : x.bytes.length ≤ 65536) (hd : doE t x = 0) (hn : NS X a m l k (doS t x)) (f : Fr (nF a m l k) w X)
    (hk : DStep X p q v sv Y v' sv (sK (b ++ frameB x.bytes) st has)) : KSt w0 Y np a m l k p q v' sv t0 (doS t x) (b ++ frameB x.bytes) st has := by
  have hd1 := h.dk.node h.ns f h.lo
  have hb1 := h.blk.fr f (nd_nF h.blk h.ns)
  exact ⟨hk.blk hd1.at_ hb1 (by decide) (by decide) (by decide), hk.ns_ hd1.at_ hn, hd1.step hk, h.hist.step hx hl hd, h.st, h.lo, h.nlo⟩
theorem stays (h : KSt w0 w np a m l k p q v sv t0 t b st has) {X : World} (hn : NS X a m l k t) (f : Fr (nF a m l k) w X) : KSt w0 X np a m l k p q v sv t0 t b st has :=
  ⟨h.blk.fr f (nd_nF h.blk h.ns), hn, h.dk.node h.ns f h.lo, h.hist, h.st, h.lo, h.nlo⟩
end KSt

set_option maxRecDepth 100000 in
set_option maxHeartbeats 2000000 in
theorem same_any {w : World} {np a m l k p a2 m2 l2 k2 : Nat} {t : NSt} (hb : Blk w np 89 (ndC a l p)) (h1 : NS w a m l k t) (h2 : NS w a2 m2 l2 k2 t) :
    Calls Tryz.prog 59 #[.pointer (some ⟨np, 0, none⟩), .pointer (some ⟨a2, 0, none⟩), .pointer (some ⟨l2, 0, none⟩)] w fun e w' => e = .returned (.bool true) ∧ Below w.heap.size w w' := by
  have c0 := hb.cell (i := 0) (v := .pointer (some ⟨a, 0, none⟩)) rfl
  have c1 := hb.cell (i := 1) (v := .pointer (some ⟨l, 0, none⟩)) rfl
  have HN := Lib.hid h1
  have HM := Lib.hid h2
  have hla := h1.a.good.list0
  have hlen := h1.a.good.len
  have hgl : (lgaps t.l).length ≤ 1000000000 := by have := lgaps_len h1.l.good; omega
  have hpl : (lprefix t.l).length ≤ 1000000000 := by have := lprefix_len h1.l.good; omega
  clear hb h1 h2
  have hE24 := fun (a b c d : Int) (w : World) => eqBal a b c d w
  have hG24 := eqGBal
  have hbd : Below w.heap.size w w.drew := (Below.refl _ w).drew
  have c00 := bcell hbd c0
  have c10 := bcell hbd c1
  have HN0 := Lib.hid (HN.out.below hbd)
  have HM0 := Lib.hid (HM.out.below hbd)
  have HB0 := Lib.hid hbd
  clear c0 c1 HN HM hbd
  go_enter Tryz.func59, Tryz.ntmps59
  go_upto_region 1 with fail
  simp only [List.append_eq, List.cons_append, List.nil_append]
  refine wp_region_held_drew (S := (fun W => W.cell? ⟨np, 0, none⟩ = some (.pointer (some ⟨a, 0, none⟩)) ∧ W.cell? ⟨np, 1, none⟩ = some (.pointer (some ⟨l, 0, none⟩)))) (by kernel_rfl) ?_ (fun hHeld => ?_)
  · exact ⟨c00, c10⟩
  try dsimp only at hHeld
  refine held_yes (i := 0) (some 7) (v := ?_) rfl rfl (by kernel_rfl) (by kernel_rfl) (by kernel_rfl) (fun _ _ _ h => h) (by rfl) ?_ hHeld ?_
  rotate_left
  · (intro w hSw; (try dsimp only at hSw); go_simp; all_goals with_reducible rfl)
  try simp only [Act.put, List.setIfInBounds_toArray, List.set_cons_zero, List.set_cons_succ]
  refine held_yes (i := 1) (some 8) (v := ?_) rfl rfl (by kernel_rfl) (by kernel_rfl) (by kernel_rfl) (fun _ _ _ h => h) (by rfl) ?_ hHeld ?_
  rotate_left
  · (intro w hSw; (try dsimp only at hSw); go_simp; all_goals with_reducible rfl)
  try simp only [Act.put, List.setIfInBounds_toArray, List.set_cons_zero, List.set_cons_succ]
  refine held_yes (i := 2) (some 9) (v := ?_) rfl rfl (by kernel_rfl) (by kernel_rfl) (by kernel_rfl) (fun _ _ _ h => h) (by rfl) ?_ hHeld ?_
  rotate_left
  · (intro w hSw; (try dsimp only at hSw); go_simp; all_goals with_reducible rfl)
  try simp only [Act.put, List.setIfInBounds_toArray, List.set_cons_zero, List.set_cons_succ]
  refine held_yes (i := 3) (some 10) (v := ?_) rfl rfl (by kernel_rfl) (by kernel_rfl) (by kernel_rfl) (fun _ _ _ h => h) (by rfl) ?_ hHeld ?_
  rotate_left
  · (intro w hSw; (try dsimp only at hSw); go_simp; all_goals with_reducible rfl)
  try simp only [Act.put, List.setIfInBounds_toArray, List.set_cons_zero, List.set_cons_succ]
  refine held_yes (i := 4) (some 11) (v := ?_) rfl rfl (by kernel_rfl) (by kernel_rfl) (by kernel_rfl) (fun _ _ _ h => h) (by rfl) ?_ hHeld ?_
  rotate_left
  · (intro w hSw; (try dsimp only at hSw); go_simp; all_goals with_reducible rfl)
  try simp only [Act.put, List.setIfInBounds_toArray, List.set_cons_zero, List.set_cons_succ]
  refine held_yes (i := 5) (some 12) (v := ?_) rfl rfl (by kernel_rfl) (by kernel_rfl) (by kernel_rfl) (fun _ _ _ h => h) (by rfl) ?_ hHeld ?_
  rotate_left
  · (intro w hSw; (try dsimp only at hSw); go_simp; all_goals with_reducible rfl)
  try simp only [Act.put, List.setIfInBounds_toArray, List.set_cons_zero, List.set_cons_succ]
  refine held_yes (i := 6) (some 13) (v := ?_) rfl rfl (by kernel_rfl) (by kernel_rfl) (by kernel_rfl) (fun _ _ _ h => h) (by rfl) ?_ hHeld ?_
  rotate_left
  · (intro w hSw; (try dsimp only at hSw); go_simp; all_goals with_reducible rfl)
  try simp only [Act.put, List.setIfInBounds_toArray, List.set_cons_zero, List.set_cons_succ]
  refine held_yes (i := 7) (some 14) (v := ?_) rfl rfl (by kernel_rfl) (by kernel_rfl) (by kernel_rfl) (fun _ _ _ h => h) (by rfl) ?_ hHeld ?_
  rotate_left
  · (intro w hSw; (try dsimp only at hSw); go_simp; all_goals with_reducible rfl)
  try simp only [Act.put, List.setIfInBounds_toArray, List.set_cons_zero, List.set_cons_succ]
  refine held_yes (i := 9) (some 16) (v := ?_) rfl rfl (by kernel_rfl) (by kernel_rfl) (by kernel_rfl) (fun _ _ _ h => h) (by rfl) ?_ hHeld ?_
  rotate_left
  · (intro w hSw; (try dsimp only at hSw); go_simp; all_goals with_reducible rfl)
  try simp only [Act.put, List.setIfInBounds_toArray, List.set_cons_zero, List.set_cons_succ]
  refine held_yes (i := 10) (some 17) (v := ?_) rfl rfl (by kernel_rfl) (by kernel_rfl) (by kernel_rfl) (fun _ _ _ h => h) (by rfl) ?_ hHeld ?_
  rotate_left
  · (intro w hSw; (try dsimp only at hSw); go_simp; all_goals with_reducible rfl)
  try simp only [Act.put, List.setIfInBounds_toArray, List.set_cons_zero, List.set_cons_succ]
  refine held_yes (i := 11) (some 18) (v := ?_) rfl rfl (by kernel_rfl) (by kernel_rfl) (by kernel_rfl) (fun _ _ _ h => h) (by rfl) ?_ hHeld ?_
  rotate_left
  · (intro w hSw; (try dsimp only at hSw); go_simp; all_goals with_reducible rfl)
  try simp only [Act.put, List.setIfInBounds_toArray, List.set_cons_zero, List.set_cons_succ]
  refine held_yes (i := 12) (some 19) (v := ?_) rfl rfl (by kernel_rfl) (by kernel_rfl) (by kernel_rfl) (fun _ _ _ h => h) (by rfl) ?_ hHeld ?_
  rotate_left
  · (intro w hSw; (try dsimp only at hSw); go_simp; all_goals with_reducible rfl)
  try simp only [Act.put, List.setIfInBounds_toArray, List.set_cons_zero, List.set_cons_succ]
  refine wpAnyH_ready (rs := [8]) (by kernel_rfl) (by simp) ?_
  refine (AllReadyH.cons rfl (fun K' hK' => ?_) AllReadyH.nil)
  go_simp
  ((with_reducible refine (promised_S a2 m2 t.a _ ?_).mono ?_); exact HM0.out.a; rintro e w1 ⟨rfl, hb⟩; have HN1 := Lib.hid (HN0.out.below hb); have HM1 := Lib.hid (HM0.out.below hb); have HB1 := Lib.hid (bchain HB0.out hb); have c01 := bcell hb c00; have c11 := bcell hb c10; clear hb HN0 HM0)
  go_wp2_with fail
  refine hK'.out _ _ ?_ (fun hHeld => ?_)
  · exact ⟨by assumption, by assumption⟩
  clear hK' K'
  try dsimp only at hHeld
  try simp only [Act.put, List.setIfInBounds_toArray, List.set_cons_zero, List.set_cons_succ]
  refine wpAnyH_ready (rs := [13]) (by kernel_rfl) (by simp) ?_
  refine (AllReadyH.cons rfl (fun K' hK' => ?_) AllReadyH.nil)
  go_simp
  ((with_reducible refine (promised_S a m t.a _ ?_).mono ?_); exact HN1.out.a; rintro e w2 ⟨rfl, hb⟩; have HN2 := Lib.hid (HN1.out.below hb); have HM2 := Lib.hid (HM1.out.below hb); have HB2 := Lib.hid (bchain HB1.out hb); have c02 := bcell hb c01; have c12 := bcell hb c11; clear hb HN1 HM1)
  go_wp2_with fail
  refine hK'.out _ _ ?_ (fun hHeld => ?_)
  · exact ⟨by assumption, by assumption⟩
  clear hK' K'
  try dsimp only at hHeld
  try simp only [Act.put, List.setIfInBounds_toArray, List.set_cons_zero, List.set_cons_succ]
  refine held_yes (i := 14) (some 21) (v := ?_) rfl rfl (by kernel_rfl) (by kernel_rfl) (by kernel_rfl) (fun _ _ _ h => h) (by rfl) ?_ hHeld ?_
  rotate_left
  · (intro w hSw; (try dsimp only at hSw); go_simp; all_goals with_reducible rfl)
  try simp only [Act.put, List.setIfInBounds_toArray, List.set_cons_zero, List.set_cons_succ]
  refine held_yes (i := 15) (some 22) (v := ?_) rfl rfl (by kernel_rfl) (by kernel_rfl) (by kernel_rfl) (fun _ _ _ h => h) (by rfl) ?_ hHeld ?_
  rotate_left
  · (intro w hSw; (try dsimp only at hSw); go_simp; all_goals with_reducible rfl)
  try simp only [Act.put, List.setIfInBounds_toArray, List.set_cons_zero, List.set_cons_succ]
  refine held_yes (i := 16) (some 23) (v := ?_) rfl rfl (by kernel_rfl) (by kernel_rfl) (by kernel_rfl) (fun _ _ _ h => h) (by rfl) ?_ hHeld ?_
  rotate_left
  · (intro w hSw; (try dsimp only at hSw); go_simp; all_goals with_reducible rfl)
  try simp only [Act.put, List.setIfInBounds_toArray, List.set_cons_zero, List.set_cons_succ]
  refine held_yes (i := 17) (some 24) (v := ?_) rfl rfl (by kernel_rfl) (by kernel_rfl) (by kernel_rfl) (fun _ _ _ h => h) (by rfl) ?_ hHeld ?_
  rotate_left
  · (intro w hSw; (try dsimp only at hSw); go_simp; all_goals with_reducible rfl)
  try simp only [Act.put, List.setIfInBounds_toArray, List.set_cons_zero, List.set_cons_succ]
  refine held_yes (i := 19) (some 26) (v := ?_) rfl rfl (by kernel_rfl) (by kernel_rfl) (by kernel_rfl) (fun _ _ _ h => h) (by rfl) ?_ hHeld ?_
  rotate_left
  · (intro w hSw; (try dsimp only at hSw); go_simp; all_goals with_reducible rfl)
  try simp only [Act.put, List.setIfInBounds_toArray, List.set_cons_zero, List.set_cons_succ]
  refine held_yes (i := 20) (some 27) (v := ?_) rfl rfl (by kernel_rfl) (by kernel_rfl) (by kernel_rfl) (fun _ _ _ h => h) (by rfl) ?_ hHeld ?_
  rotate_left
  · (intro w hSw; (try dsimp only at hSw); go_simp; all_goals with_reducible rfl)
  try simp only [Act.put, List.setIfInBounds_toArray, List.set_cons_zero, List.set_cons_succ]
  refine held_yes (i := 21) (some 28) (v := ?_) rfl rfl (by kernel_rfl) (by kernel_rfl) (by kernel_rfl) (fun _ _ _ h => h) (by rfl) ?_ hHeld ?_
  rotate_left
  · (intro w hSw; (try dsimp only at hSw); go_simp; all_goals with_reducible rfl)
  try simp only [Act.put, List.setIfInBounds_toArray, List.set_cons_zero, List.set_cons_succ]
  refine held_yes (i := 22) (some 29) (v := ?_) rfl rfl (by kernel_rfl) (by kernel_rfl) (by kernel_rfl) (fun _ _ _ h => h) (by rfl) ?_ hHeld ?_
  rotate_left
  · (intro w hSw; (try dsimp only at hSw); go_simp; all_goals with_reducible rfl)
  try simp only [Act.put, List.setIfInBounds_toArray, List.set_cons_zero, List.set_cons_succ]
  refine wpAnyH_ready (rs := [18]) (by kernel_rfl) (by simp) ?_
  refine (AllReadyH.cons rfl (fun K' hK' => ?_) AllReadyH.nil)
  go_simp
  ((with_reducible refine (base_S a2 m2 t.a _ ?_).mono ?_); exact HM2.out.a; rintro e w3 ⟨rfl, rfl⟩; have HN3 := HN2; have HM3 := HM2; have HB3 := HB2; have c03 := c02; have c13 := c12; clear HN2 HM2)
  go_wp2_with fail
  refine hK'.out _ _ ?_ (fun hHeld => ?_)
  · exact ⟨by assumption, by assumption⟩
  clear hK' K'
  try dsimp only at hHeld
  try simp only [Act.put, List.setIfInBounds_toArray, List.set_cons_zero, List.set_cons_succ]
  refine wpAnyH_ready (rs := [23]) (by kernel_rfl) (by simp) ?_
  refine (AllReadyH.cons rfl (fun K' hK' => ?_) AllReadyH.nil)
  go_simp
  ((with_reducible refine (base_S a m t.a _ ?_).mono ?_); exact HN3.out.a; rintro e w4 ⟨rfl, rfl⟩; have HN4 := HN3; have HM4 := HM3; have HB4 := HB3; have c04 := c03; have c14 := c13; clear HN3 HM3)
  go_wp2_with fail
  refine hK'.out _ _ ?_ (fun hHeld => ?_)
  · exact ⟨by assumption, by assumption⟩
  clear hK' K'
  try dsimp only at hHeld
  try simp only [Act.put, List.setIfInBounds_toArray, List.set_cons_zero, List.set_cons_succ]
  refine held_yes (i := 24) (some 31) (v := ?_) rfl rfl (by kernel_rfl) (by kernel_rfl) (by kernel_rfl) (fun _ _ _ h => h) (by rfl) ?_ hHeld ?_
  rotate_left
  · (intro w hSw; (try dsimp only at hSw); go_simp; all_goals with_reducible rfl)
  try simp only [Act.put, List.setIfInBounds_toArray, List.set_cons_zero, List.set_cons_succ]
  refine held_yes (i := 25) (some 32) (v := ?_) rfl rfl (by kernel_rfl) (by kernel_rfl) (by kernel_rfl) (fun _ _ _ h => h) (by rfl) ?_ hHeld ?_
  rotate_left
  · (intro w hSw; (try dsimp only at hSw); go_simp; all_goals with_reducible rfl)
  try simp only [Act.put, List.setIfInBounds_toArray, List.set_cons_zero, List.set_cons_succ]
  refine held_yes (i := 26) (some 33) (v := ?_) rfl rfl (by kernel_rfl) (by kernel_rfl) (by kernel_rfl) (fun _ _ _ h => h) (by rfl) ?_ hHeld ?_
  rotate_left
  · (intro w hSw; (try dsimp only at hSw); go_simp; all_goals with_reducible rfl)
  try simp only [Act.put, List.setIfInBounds_toArray, List.set_cons_zero, List.set_cons_succ]
  refine held_yes (i := 27) (some 34) (v := ?_) rfl rfl (by kernel_rfl) (by kernel_rfl) (by kernel_rfl) (fun _ _ _ h => h) (by rfl) ?_ hHeld ?_
  rotate_left
  · (intro w hSw; (try dsimp only at hSw); go_simp; all_goals with_reducible rfl)
  try simp only [Act.put, List.setIfInBounds_toArray, List.set_cons_zero, List.set_cons_succ]
  refine held_yes (i := 29) (some 36) (v := ?_) rfl rfl (by kernel_rfl) (by kernel_rfl) (by kernel_rfl) (fun _ _ _ h => h) (by rfl) ?_ hHeld ?_
  rotate_left
  · (intro w hSw; (try dsimp only at hSw); go_simp; all_goals with_reducible rfl)
  try simp only [Act.put, List.setIfInBounds_toArray, List.set_cons_zero, List.set_cons_succ]
  refine held_yes (i := 30) (some 37) (v := ?_) rfl rfl (by kernel_rfl) (by kernel_rfl) (by kernel_rfl) (fun _ _ _ h => h) (by rfl) ?_ hHeld ?_
  rotate_left
  · (intro w hSw; (try dsimp only at hSw); go_simp; all_goals with_reducible rfl)
  try simp only [Act.put, List.setIfInBounds_toArray, List.set_cons_zero, List.set_cons_succ]
  refine held_yes (i := 31) (some 38) (v := ?_) rfl rfl (by kernel_rfl) (by kernel_rfl) (by kernel_rfl) (fun _ _ _ h => h) (by rfl) ?_ hHeld ?_
  rotate_left
  · (intro w hSw; (try dsimp only at hSw); go_simp; all_goals with_reducible rfl)
  try simp only [Act.put, List.setIfInBounds_toArray, List.set_cons_zero, List.set_cons_succ]
  refine held_yes (i := 32) (some 39) (v := ?_) rfl rfl (by kernel_rfl) (by kernel_rfl) (by kernel_rfl) (fun _ _ _ h => h) (by rfl) ?_ hHeld ?_
  rotate_left
  · (intro w hSw; (try dsimp only at hSw); go_simp; all_goals with_reducible rfl)
  try simp only [Act.put, List.setIfInBounds_toArray, List.set_cons_zero, List.set_cons_succ]
  refine wpAnyH_ready (rs := [28]) (by kernel_rfl) (by simp) ?_
  refine (AllReadyH.cons rfl (fun K' hK' => ?_) AllReadyH.nil)
  go_simp
  ((with_reducible refine (list_S a2 m2 t.a _ 0 ?_).mono ?_); exact HM4.out.a; rintro e w5 ⟨va, rfl, hv, hb⟩; rw [hla] at hv; obtain ⟨A1, n1, k1, rfl⟩ := row_shape hv; have RA5 := Lib.hid hv; have HN5 := Lib.hid (HN4.out.below hb); have HM5 := Lib.hid (HM4.out.below hb); have HB5 := Lib.hid (bchain HB4.out hb); have c05 := bcell hb c04; have c15 := bcell hb c14; clear hb HN4 HM4)
  go_wp2_with fail
  refine hK'.out _ _ ?_ (fun hHeld => ?_)
  · exact ⟨by assumption, by assumption⟩
  clear hK' K'
  try dsimp only at hHeld
  try simp only [Act.put, List.setIfInBounds_toArray, List.set_cons_zero, List.set_cons_succ]
  refine wpAnyH_ready (rs := [33]) (by kernel_rfl) (by simp) ?_
  refine (AllReadyH.cons rfl (fun K' hK' => ?_) AllReadyH.nil)
  go_simp
  ((with_reducible refine (list_S a m t.a _ 0 ?_).mono ?_); exact HN5.out.a; rintro e w6 ⟨vb, rfl, hv, hb⟩; rw [hla] at hv; obtain ⟨A2, n2', k2', rfl⟩ := row_shape hv; have RB := Lib.hid hv; have RA := Lib.hid (RA5.out.below hb); have HN6 := Lib.hid (HN5.out.below hb); have HM6 := Lib.hid (HM5.out.below hb); have HB6 := Lib.hid (bchain HB5.out hb); have c06 := bcell hb c05; have c16 := bcell hb c15; clear hb HN5 HM5)
  go_wp2_with fail
  refine hK'.out _ _ ?_ (fun hHeld => ?_)
  · exact ⟨by assumption, by assumption⟩
  clear hK' K'
  try dsimp only at hHeld
  try simp only [Act.put, List.setIfInBounds_toArray, List.set_cons_zero, List.set_cons_succ]
  refine wpAnyH_ready (rs := [34]) (by kernel_rfl) (by simp) ?_
  refine (AllReadyH.cons rfl (fun K' hK' => ?_) AllReadyH.nil)
  go_simp
  ((with_reducible refine (eqEnts _ _ _ _ t.a.L _ RA.out RB.out ?_).mono ?_); exact (by omega); rintro e w7 ⟨rfl, hb⟩; have HN7 := Lib.hid (HN6.out.below hb); have HM7 := Lib.hid (HM6.out.below hb); have HB7 := Lib.hid (bchain HB6.out hb); have c07 := bcell hb c06; have c17 := bcell hb c16; clear hb HN6 HM6)
  go_wp2_with fail
  refine hK'.out _ _ ?_ (fun hHeld => ?_)
  · exact ⟨by assumption, by assumption⟩
  clear hK' K'
  try dsimp only at hHeld
  try simp only [Act.put, List.setIfInBounds_toArray, List.set_cons_zero, List.set_cons_succ]
  refine held_yes (i := 35) (some 42) (v := ?_) rfl rfl (by kernel_rfl) (by kernel_rfl) (by kernel_rfl) (fun _ _ _ h => h) (by rfl) ?_ hHeld ?_
  rotate_left
  · (intro w hSw; (try dsimp only at hSw); go_simp; all_goals with_reducible rfl)
  try simp only [Act.put, List.setIfInBounds_toArray, List.set_cons_zero, List.set_cons_succ]
  refine held_yes (i := 36) (some 43) (v := ?_) rfl rfl (by kernel_rfl) (by kernel_rfl) (by kernel_rfl) (fun _ _ _ h => h) (by rfl) ?_ hHeld ?_
  rotate_left
  · (intro w hSw; (try dsimp only at hSw); go_simp; all_goals with_reducible rfl)
  try simp only [Act.put, List.setIfInBounds_toArray, List.set_cons_zero, List.set_cons_succ]
  refine held_yes (i := 37) (some 44) (v := ?_) rfl rfl (by kernel_rfl) (by kernel_rfl) (by kernel_rfl) (fun _ _ _ h => h) (by rfl) ?_ hHeld ?_
  rotate_left
  · (intro w hSw; (try dsimp only at hSw); go_simp; all_goals with_reducible rfl)
  try simp only [Act.put, List.setIfInBounds_toArray, List.set_cons_zero, List.set_cons_succ]
  refine held_yes (i := 39) (some 46) (v := ?_) rfl rfl (by kernel_rfl) (by kernel_rfl) (by kernel_rfl) (fun _ _ _ h => h) (by rfl) ?_ hHeld ?_
  rotate_left
  · (intro w hSw; (try dsimp only at hSw); go_simp; all_goals with_reducible rfl)
  try simp only [Act.put, List.setIfInBounds_toArray, List.set_cons_zero, List.set_cons_succ]
  refine held_yes (i := 40) (some 47) (v := ?_) rfl rfl (by kernel_rfl) (by kernel_rfl) (by kernel_rfl) (fun _ _ _ h => h) (by rfl) ?_ hHeld ?_
  rotate_left
  · (intro w hSw; (try dsimp only at hSw); go_simp; all_goals with_reducible rfl)
  try simp only [Act.put, List.setIfInBounds_toArray, List.set_cons_zero, List.set_cons_succ]
  refine held_yes (i := 41) (some 48) (v := ?_) rfl rfl (by kernel_rfl) (by kernel_rfl) (by kernel_rfl) (fun _ _ _ h => h) (by rfl) ?_ hHeld ?_
  rotate_left
  · (intro w hSw; (try dsimp only at hSw); go_simp; all_goals with_reducible rfl)
  try simp only [Act.put, List.setIfInBounds_toArray, List.set_cons_zero, List.set_cons_succ]
  refine held_yes (i := 42) (some 49) (v := ?_) rfl rfl (by kernel_rfl) (by kernel_rfl) (by kernel_rfl) (fun _ _ _ h => h) (by rfl) ?_ hHeld ?_
  rotate_left
  · (intro w hSw; (try dsimp only at hSw); go_simp; all_goals with_reducible rfl)
  try simp only [Act.put, List.setIfInBounds_toArray, List.set_cons_zero, List.set_cons_succ]
  refine wpAnyH_ready (rs := [38]) (by kernel_rfl) (by simp) ?_
  refine (AllReadyH.cons rfl (fun K' hK' => ?_) AllReadyH.nil)
  go_simp
  ((with_reducible refine (lbase_any (m := k2) (s := t.l) ?_).mono ?_); exact HM7.out.l.at_; rintro e w8 ⟨rfl, rfl⟩; have HN8 := HN7; have HM8 := HM7; have HB8 := HB7; have c08 := c07; have c18 := c17; clear HN7 HM7)
  go_wp2_with fail
  refine hK'.out _ _ ?_ (fun hHeld => ?_)
  · exact ⟨by assumption, by assumption⟩
  clear hK' K'
  try dsimp only at hHeld
  try simp only [Act.put, List.setIfInBounds_toArray, List.set_cons_zero, List.set_cons_succ]
  refine wpAnyH_ready (rs := [43]) (by kernel_rfl) (by simp) ?_
  refine (AllReadyH.cons rfl (fun K' hK' => ?_) AllReadyH.nil)
  go_simp
  ((with_reducible refine (lbase_any (m := k) (s := t.l) ?_).mono ?_); exact HN8.out.l.at_; rintro e w9 ⟨rfl, rfl⟩; have HN9 := HN8; have HM9 := HM8; have HB9 := HB8; have c09 := c08; have c19 := c18; clear HN8 HM8)
  go_wp2_with fail
  refine hK'.out _ _ ?_ (fun hHeld => ?_)
  · exact ⟨by assumption, by assumption⟩
  clear hK' K'
  try dsimp only at hHeld
  try simp only [Act.put, List.setIfInBounds_toArray, List.set_cons_zero, List.set_cons_succ]
  refine held_yes (i := 44) (some 51) (v := ?_) rfl rfl (by kernel_rfl) (by kernel_rfl) (by kernel_rfl) (fun _ _ _ h => h) (by rfl) ?_ hHeld ?_
  rotate_left
  · (intro w hSw; (try dsimp only at hSw); go_simp; all_goals with_reducible rfl)
  try simp only [Act.put, List.setIfInBounds_toArray, List.set_cons_zero, List.set_cons_succ]
  refine held_yes (i := 45) (some 52) (v := ?_) rfl rfl (by kernel_rfl) (by kernel_rfl) (by kernel_rfl) (fun _ _ _ h => h) (by rfl) ?_ hHeld ?_
  rotate_left
  · (intro w hSw; (try dsimp only at hSw); go_simp; all_goals with_reducible rfl)
  try simp only [Act.put, List.setIfInBounds_toArray, List.set_cons_zero, List.set_cons_succ]
  refine held_yes (i := 46) (some 53) (v := ?_) rfl rfl (by kernel_rfl) (by kernel_rfl) (by kernel_rfl) (fun _ _ _ h => h) (by rfl) ?_ hHeld ?_
  rotate_left
  · (intro w hSw; (try dsimp only at hSw); go_simp; all_goals with_reducible rfl)
  try simp only [Act.put, List.setIfInBounds_toArray, List.set_cons_zero, List.set_cons_succ]
  refine held_yes (i := 47) (some 54) (v := ?_) rfl rfl (by kernel_rfl) (by kernel_rfl) (by kernel_rfl) (fun _ _ _ h => h) (by rfl) ?_ hHeld ?_
  rotate_left
  · (intro w hSw; (try dsimp only at hSw); go_simp; all_goals with_reducible rfl)
  try simp only [Act.put, List.setIfInBounds_toArray, List.set_cons_zero, List.set_cons_succ]
  refine held_yes (i := 49) (some 56) (v := ?_) rfl rfl (by kernel_rfl) (by kernel_rfl) (by kernel_rfl) (fun _ _ _ h => h) (by rfl) ?_ hHeld ?_
  rotate_left
  · (intro w hSw; (try dsimp only at hSw); go_simp; all_goals with_reducible rfl)
  try simp only [Act.put, List.setIfInBounds_toArray, List.set_cons_zero, List.set_cons_succ]
  refine held_yes (i := 50) (some 57) (v := ?_) rfl rfl (by kernel_rfl) (by kernel_rfl) (by kernel_rfl) (fun _ _ _ h => h) (by rfl) ?_ hHeld ?_
  rotate_left
  · (intro w hSw; (try dsimp only at hSw); go_simp; all_goals with_reducible rfl)
  try simp only [Act.put, List.setIfInBounds_toArray, List.set_cons_zero, List.set_cons_succ]
  refine held_yes (i := 51) (some 58) (v := ?_) rfl rfl (by kernel_rfl) (by kernel_rfl) (by kernel_rfl) (fun _ _ _ h => h) (by rfl) ?_ hHeld ?_
  rotate_left
  · (intro w hSw; (try dsimp only at hSw); go_simp; all_goals with_reducible rfl)
  try simp only [Act.put, List.setIfInBounds_toArray, List.set_cons_zero, List.set_cons_succ]
  refine held_yes (i := 52) (some 59) (v := ?_) rfl rfl (by kernel_rfl) (by kernel_rfl) (by kernel_rfl) (fun _ _ _ h => h) (by rfl) ?_ hHeld ?_
  rotate_left
  · (intro w hSw; (try dsimp only at hSw); go_simp; all_goals with_reducible rfl)
  try simp only [Act.put, List.setIfInBounds_toArray, List.set_cons_zero, List.set_cons_succ]
  refine wpAnyH_ready (rs := [48]) (by kernel_rfl) (by simp) ?_
  refine (AllReadyH.cons rfl (fun K' hK' => ?_) AllReadyH.nil)
  go_simp
  ((with_reducible refine (lprefix_any (m := k2) (s := t.l) ?_ ?_).mono ?_); exact HM9.out.l.at_; exact HM9.out.l.good; rintro e w10 ⟨vc, rfl, hv, hb⟩; obtain ⟨A3, n3, k3, rfl⟩ := row_shape hv; have RC10 := Lib.hid hv; have HN10 := Lib.hid (HN9.out.below hb); have HM10 := Lib.hid (HM9.out.below hb); have HB10 := Lib.hid (bchain HB9.out hb); have c010 := bcell hb c09; have c110 := bcell hb c19; clear hb HN9 HM9)
  go_wp2_with fail
  refine hK'.out _ _ ?_ (fun hHeld => ?_)
  · exact ⟨by assumption, by assumption⟩
  clear hK' K'
  try dsimp only at hHeld
  try simp only [Act.put, List.setIfInBounds_toArray, List.set_cons_zero, List.set_cons_succ]
  refine wpAnyH_ready (rs := [53]) (by kernel_rfl) (by simp) ?_
  refine (AllReadyH.cons rfl (fun K' hK' => ?_) AllReadyH.nil)
  go_simp
  ((with_reducible refine (lprefix_any (m := k) (s := t.l) ?_ ?_).mono ?_); exact HN10.out.l.at_; exact HN10.out.l.good; rintro e w11 ⟨vd, rfl, hv, hb⟩; obtain ⟨A4, n4, k4, rfl⟩ := row_shape hv; have RD := Lib.hid hv; have RC := Lib.hid (row_fr RC10.out (Fr.of_below hb : Fr Go.Proofs.YtlfikhblmbidmaaGreatDoor.S0 _ _) (fun _ _ e => e)); have HN11 := Lib.hid (HN10.out.below hb); have HM11 := Lib.hid (HM10.out.below hb); have HB11 := Lib.hid (bchain HB10.out hb); have c011 := bcell hb c010; have c111 := bcell hb c110; clear hb HN10 HM10)
  go_wp2_with fail
  refine hK'.out _ _ ?_ (fun hHeld => ?_)
  · exact ⟨by assumption, by assumption⟩
  clear hK' K'
  try dsimp only at hHeld
  try simp only [Act.put, List.setIfInBounds_toArray, List.set_cons_zero, List.set_cons_succ]
  refine wpAnyH_ready (rs := [54]) (by kernel_rfl) (by simp) ?_
  refine (AllReadyH.cons rfl (fun K' hK' => ?_) AllReadyH.nil)
  go_simp
  ((with_reducible refine (eqStrs _ _ _ _ (lprefix t.l) _ RC.out RD.out ?_).mono ?_); exact (by omega); rintro e w12 ⟨rfl, hb⟩; have HN12 := Lib.hid (HN11.out.below hb); have HM12 := Lib.hid (HM11.out.below hb); have HB12 := Lib.hid (bchain HB11.out hb); have c012 := bcell hb c011; have c112 := bcell hb c111; clear hb HN11 HM11)
  go_wp2_with fail
  refine hK'.out _ _ ?_ (fun hHeld => ?_)
  · exact ⟨by assumption, by assumption⟩
  clear hK' K'
  try dsimp only at hHeld
  try simp only [Act.put, List.setIfInBounds_toArray, List.set_cons_zero, List.set_cons_succ]
  refine held_yes (i := 55) (some 62) (v := ?_) rfl rfl (by kernel_rfl) (by kernel_rfl) (by kernel_rfl) (fun _ _ _ h => h) (by rfl) ?_ hHeld ?_
  rotate_left
  · (intro w hSw; (try dsimp only at hSw); go_simp; all_goals with_reducible rfl)
  try simp only [Act.put, List.setIfInBounds_toArray, List.set_cons_zero, List.set_cons_succ]
  refine held_yes (i := 56) (some 63) (v := ?_) rfl rfl (by kernel_rfl) (by kernel_rfl) (by kernel_rfl) (fun _ _ _ h => h) (by rfl) ?_ hHeld ?_
  rotate_left
  · (intro w hSw; (try dsimp only at hSw); go_simp; all_goals with_reducible rfl)
  try simp only [Act.put, List.setIfInBounds_toArray, List.set_cons_zero, List.set_cons_succ]
  refine held_yes (i := 57) (some 64) (v := ?_) rfl rfl (by kernel_rfl) (by kernel_rfl) (by kernel_rfl) (fun _ _ _ h => h) (by rfl) ?_ hHeld ?_
  rotate_left
  · (intro w hSw; (try dsimp only at hSw); go_simp; all_goals with_reducible rfl)
  try simp only [Act.put, List.setIfInBounds_toArray, List.set_cons_zero, List.set_cons_succ]
  refine held_yes (i := 59) (some 66) (v := ?_) rfl rfl (by kernel_rfl) (by kernel_rfl) (by kernel_rfl) (fun _ _ _ h => h) (by rfl) ?_ hHeld ?_
  rotate_left
  · (intro w hSw; (try dsimp only at hSw); go_simp; all_goals with_reducible rfl)
  try simp only [Act.put, List.setIfInBounds_toArray, List.set_cons_zero, List.set_cons_succ]
  refine held_yes (i := 60) (some 67) (v := ?_) rfl rfl (by kernel_rfl) (by kernel_rfl) (by kernel_rfl) (fun _ _ _ h => h) (by rfl) ?_ hHeld ?_
  rotate_left
  · (intro w hSw; (try dsimp only at hSw); go_simp; all_goals with_reducible rfl)
  try simp only [Act.put, List.setIfInBounds_toArray, List.set_cons_zero, List.set_cons_succ]
  refine held_yes (i := 61) (some 68) (v := ?_) rfl rfl (by kernel_rfl) (by kernel_rfl) (by kernel_rfl) (fun _ _ _ h => h) (by rfl) ?_ hHeld ?_
  rotate_left
  · (intro w hSw; (try dsimp only at hSw); go_simp; all_goals with_reducible rfl)
  try simp only [Act.put, List.setIfInBounds_toArray, List.set_cons_zero, List.set_cons_succ]
  refine held_yes (i := 62) (some 69) (v := ?_) rfl rfl (by kernel_rfl) (by kernel_rfl) (by kernel_rfl) (fun _ _ _ h => h) (by rfl) ?_ hHeld ?_
  rotate_left
  · (intro w hSw; (try dsimp only at hSw); go_simp; all_goals with_reducible rfl)
  try simp only [Act.put, List.setIfInBounds_toArray, List.set_cons_zero, List.set_cons_succ]
  refine wpAnyH_ready (rs := [58]) (by kernel_rfl) (by simp) ?_
  refine (AllReadyH.cons rfl (fun K' hK' => ?_) AllReadyH.nil)
  go_simp
  ((with_reducible refine (lgaps_any (m := k2) (s := t.l) ?_ ?_).mono ?_); exact HM12.out.l.at_; exact HM12.out.l.good; rintro e w13 ⟨ve, rfl, hv, hb⟩; obtain ⟨A5, n5, k5, rfl⟩ := row_shape hv; have RE13 := Lib.hid hv; have HN13 := Lib.hid (HN12.out.below hb); have HM13 := Lib.hid (HM12.out.below hb); have HB13 := Lib.hid (bchain HB12.out hb); have c013 := bcell hb c012; have c113 := bcell hb c112; clear hb HN12 HM12)
  go_wp2_with fail
  refine hK'.out _ _ ?_ (fun hHeld => ?_)
  · exact ⟨by assumption, by assumption⟩
  clear hK' K'
  try dsimp only at hHeld
  try simp only [Act.put, List.setIfInBounds_toArray, List.set_cons_zero, List.set_cons_succ]
  refine wpAnyH_ready (rs := [63]) (by kernel_rfl) (by simp) ?_
  refine (AllReadyH.cons rfl (fun K' hK' => ?_) AllReadyH.nil)
  go_simp
  ((with_reducible refine (lgaps_any (m := k) (s := t.l) ?_ ?_).mono ?_); exact HN13.out.l.at_; exact HN13.out.l.good; rintro e w14 ⟨vf, rfl, hv, hb⟩; obtain ⟨A6, n6, k6, rfl⟩ := row_shape hv; have RF := Lib.hid hv; have RE := Lib.hid (row_fr RE13.out (Fr.of_below hb : Fr Go.Proofs.YtlfikhblmbidmaaGreatDoor.S0 _ _) (fun _ _ e => e)); have HN14 := Lib.hid (HN13.out.below hb); have HM14 := Lib.hid (HM13.out.below hb); have HB14 := Lib.hid (bchain HB13.out hb); have c014 := bcell hb c013; have c114 := bcell hb c113; clear hb HN13 HM13)
  go_wp2_with fail
  refine hK'.out _ _ ?_ (fun hHeld => ?_)
  · exact ⟨by assumption, by assumption⟩
  clear hK' K'
  try dsimp only at hHeld
  try simp only [Act.put, List.setIfInBounds_toArray, List.set_cons_zero, List.set_cons_succ]
  refine wpAnyH_ready (rs := [64]) (by kernel_rfl) (by simp) ?_
  refine (AllReadyH.cons rfl (fun K' hK' => ?_) AllReadyH.nil)
  go_simp
  ((with_reducible refine (eqInts _ _ _ _ (lgaps t.l) _ RE.out RF.out ?_).mono ?_); exact (by omega); rintro e w15 ⟨rfl, hb⟩; have HN15 := Lib.hid (HN14.out.below hb); have HM15 := Lib.hid (HM14.out.below hb); have HB15 := Lib.hid (bchain HB14.out hb); have c015 := bcell hb c014; have c115 := bcell hb c114; clear hb HN14 HM14)
  go_wp2_with fail
  refine hK'.out _ _ ?_ (fun hHeld => ?_)
  · exact ⟨by assumption, by assumption⟩
  clear hK' K'
  try dsimp only at hHeld
  try simp only [Act.put, List.setIfInBounds_toArray, List.set_cons_zero, List.set_cons_succ]
  refine held_yes (i := 65) (some 72) (v := ?_) rfl rfl (by kernel_rfl) (by kernel_rfl) (by kernel_rfl) (fun _ _ _ h => h) (by rfl) ?_ hHeld ?_
  rotate_left
  · (intro w hSw; (try dsimp only at hSw); go_simp; all_goals with_reducible rfl)
  try simp only [Act.put, List.setIfInBounds_toArray, List.set_cons_zero, List.set_cons_succ]
  refine held_yes (i := 66) (some 6) (v := ?_) rfl rfl (by kernel_rfl) (by kernel_rfl) (by kernel_rfl) (fun _ _ _ h => h) (by rfl) ?_ hHeld ?_
  rotate_left
  · (intro w hSw; (try dsimp only at hSw); go_simp; all_goals with_reducible rfl)
  try simp only [Act.put, List.setIfInBounds_toArray, List.set_cons_zero, List.set_cons_succ]
  refine wpAnyH_done (by kernel_rfl) ?_ _
  go_wp2_with fail
  go_returns
  exact ⟨rfl, HB15.out⟩
end Go.Proofs.YtlfikhblmbidmaaGreatDoor
