/- The reference's writer (skaldref03). -/
import Derived.Test.YtlfikhblmbidmaaGreatDoorMrgH
import Derived.Maps.AppendAt
import Derived.Deep.AppendLies
import Derived.Lib.ConvBytes
set_option linter.unusedVariables false
set_option linter.unusedSimpArgs false
namespace Go.Proofs.YtlfikhblmbidmaaGreatDoor
open Go.RowKit Go.Maps

structure RwAt (w : World) (p : Nat) (v : Value) (bs : List UInt8) : Prop where
  blk : Blk w p 218 #[.bool true, v]
  row : w.ownsRow (p + 1) 5 1 v bs.length (bs.map u8V)
structure RwStep (w : World) (p : Nat) (v : Value) (w' : World) (v' : Value) (bs' : List UInt8) : Prop where
  fr : Fr (fun i => i = p ∨ v.ownBlock = some i) w w'
  own : ∀ i, v'.ownBlock = some i → v.ownBlock = some i ∨ w.heap.size ≤ i
  at_ : RwAt w' p v' bs'
theorem RwStep.refl {w : World} {p : Nat} {v : Value} {bs : List UInt8} (h : RwAt w p v bs) : RwStep w p v w v bs := ⟨Fr.refl _ _, fun i e => .inl e, h⟩
theorem RwStep.trans {w w' w'' : World} {p : Nat} {v v' v'' : Value} {bs bs' : List UInt8} (h : RwStep w p v w' v' bs) (k : RwStep w' p v' w'' v'' bs') : RwStep w p v w'' v'' bs' := by
  refine ⟨h.fr.trans' k.fr (fun i hi e => ?_), fun i e => ?_, k.at_⟩
  · rcases e with e | e
    · exact .inl e
    · rcases h.own i e with e' | e'
      · exact .inr e'
      · omega
  · rcases k.own i e with e' | e'
    · exact h.own i e'
    · exact .inr (Nat.le_trans h.fr.size e')
theorem RwAt.fr {S : Nat → Prop} {w w' : World} {p : Nat} {v : Value} {bs : List UInt8} (h : RwAt w p v bs) (k : Fr S w w') (hp : ¬ S p) (hv : ∀ i, v.ownBlock = some i → ¬ S i) : RwAt w' p v bs := ⟨h.blk.fr k hp, row_fr h.row k hv⟩
theorem RwAt.below {w w' : World} {p : Nat} {v : Value} {bs : List UInt8} (h : RwAt w p v bs) (k : Below w.heap.size w w') : RwAt w' p v bs := h.fr (Fr.of_below k : Fr S0 w w') (fun e => e) (fun _ _ e => e)
theorem RwStep.below {w w' : World} {p : Nat} {v : Value} {bs : List UInt8} (h : RwAt w p v bs) (k : Below w.heap.size w w') : RwStep w p v w' v bs := ⟨Fr.of_below k, fun i e => .inl e, h.below k⟩
theorem RwAt.shape {w : World} {p : Nat} {v : Value} {bs : List UInt8} (h : RwAt w p v bs) : ∃ a cap, v = .slice a bs.length cap := row_len h.row

theorem rwnew (w : World) : Calls Tryz.prog 85 #[] w fun e w' => ∃ p, e = .returned (.pointer (some ⟨p, 0, none⟩)) ∧ RwAt w' p (.slice none 0 0) [] ∧ w.heap.size ≤ p ∧ Below w.heap.size w w' := by
  go_enter Tryz.func85, Tryz.ntmps85
  go_wp2_with fail
  go_returns
  exact ⟨_, rfl, ⟨Blk.new _ _ _, World.ownsRow_nil _ _ _ _⟩, Nat.le_refl _, (Below.refl _ w).alloc (Nat.le_refl _) _⟩
theorem rwvalid (p : Nat) (w : World) (h : w.cell? ⟨p, 0, none⟩ = some (.bool true)) : Calls Tryz.prog 213 #[.pointer (some ⟨p, 0, none⟩)] w fun e w' => e = .returned (.bool true) ∧ w = w' := by
  go_enter Tryz.func213, Tryz.ntmps213
  go_wp2_with fail
  go_returns
  exact ⟨rfl, rfl⟩

theorem bw_below (w : World) (e : TypeId) (s : ByteArray) : Below w.heap.size w (Lib.bytesWorld w e s) :=
  ⟨rfl, rfl, rfl, by rw [Lib.bytesWorld_size]; omega, fun i hi => Lib.bytesWorld_at_old w e s i hi⟩
theorem lrow_cells {W : World} {v : Value} {cs : List UInt8} (h : LRow W v cs) (h0 : 0 < cs.length) : ∃ a c, v = .slice (some a) cs.length c ∧ ∀ j z, (cs.map u8V)[j]? = some z → W.cell? (a.add j) = some z := by
  obtain ⟨A, c, rfl, hle, hmax, hcells⟩ := h.bsIn
  obtain ⟨b, off, rfl, hb, hc⟩ := hcells h0
  refine ⟨⟨b, off, none⟩, c, rfl, fun j z hz => ?_⟩
  rw [List.getElem?_map] at hz
  cases hy : cs[j]? with
  | none => rw [hy] at hz; cases hz
  | some y =>
    rw [hy] at hz
    cases hz
    rw [Addr.add_lit]
    exact hc j y hy
theorem lrow_new (w : World) (x : UInt8) : LRow (w.alloc (.cells #[u8V x] 5)) (.slice (some ⟨w.heap.size, 0, none⟩) 1 1) [x] :=
  .inr ⟨w.heap.size, 1, #[u8V x], rfl, Blk.new w _ _, Nat.le_refl _, Nat.le_refl _, by unfold maxLen; omega, rfl⟩

set_option maxRecDepth 100000 in
set_option maxHeartbeats 2000000 in
theorem rnum_any : ∀ (f n : Nat) (w : World), n < f → n < 18446744073709551616 → Calls Tryz.prog 172 #[.int .u64 (n : Int)] w fun e w' => ∃ vo, e = .returned vo ∧ LRow w' vo (uintB n) ∧ Below w.heap.size w w'
  | 0, n, w, h, _ => by omega
  | f + 1, n, w, h, hm => by
    by_cases hn : n < 128
    · rw [uintB_lt hn]
      have hw : ((UInt8.ofNat n).toNat : Int) = (n : Int) := by rw [UInt8.toNat_ofNat']; omega
      have hl : decide ((n : Int) < 128) = true := by simp; omega
      have HL := lrow_new w (UInt8.ofNat n)
      rw [show u8V (UInt8.ofNat n) = .int .u8 (n : Int) by rw [← hw]] at HL
      have HLL := Lib.hid HL
      clear HL hw
      go_enter Tryz.func172, Tryz.ntmps172
      go_wp2_with fail
      go_returns
      exact ⟨_, rfl, HLL.out, (Below.refl _ w).alloc (Nat.le_refl _) _⟩
    · rw [uintB_ge hn]
      have hw : ((UInt8.ofNat (n % 128 + 128)).toNat : Int) = (n : Int) % 128 + 128 := by rw [UInt8.toNat_ofNat']; omega
      have hu : u8V (UInt8.ofNat (n % 128 + 128)) = .int .u8 ((n : Int) % 128 + 128) := by rw [← hw]
      have ih := rnum_any f (n / 128) (w.alloc (.cells #[u8V (UInt8.ofNat (n % 128 + 128))] 5)) (by omega) (by omega)
      have hL := lrow_new w (UInt8.ofNat (n % 128 + 128))
      rw [hu] at ih hL
      rw [show ((n / 128 : Nat) : Int) = (n : Int) / 128 by omega] at ih
      have IH := Lib.hid ih
      have HL := Lib.hid hL
      have hlen := uintB_len10 (n := n / 128) (by omega)
      have h0 : 0 < (uintB (n / 128)).length := by
        by_cases h2 : n / 128 < 128
        · rw [uintB_lt h2]; simp
        · rw [uintB_ge h2]; simp
      have hl : decide ((n : Int) < 128) = false := by simp; omega
      clear ih hL hw hu
      go_enter Tryz.func172, Tryz.ntmps172
      go_wp2_with (first
        | (go_at_call 172; refine IH.out.mono ?_; rintro e w2 ⟨vo, rfl, ho, hb⟩; have HO := Lib.hid ho; obtain ⟨a9, c9, rfl⟩ := ho.shape; have H2 := Lib.hid (HL.out.fr (Fr.of_below hb : Fr S0 _ _) (fun _ _ e => e)); have HB2 := Lib.hid (bchain ((Below.refl _ w).alloc (Nat.le_refl _) _) hb); clear ho hb)
        | (at_builtin; refine wpList_append_lrow _ rfl _ _ rfl _ _ rfl H2.out _ _ rfl HO.out.bsIn h0 (by simp; omega) ?_; intro v3 w3 ho3 hg3 hoa3; have HO3 := Lib.hid ho3; have HG3 := Lib.hid hg3; clear ho3 hg3 hoa3))
      go_returns
      exact ⟨_, rfl, HO3.out, Fr.upB HB2.out (Fr.of_grown (S := S1 w.heap.size) HG3.out (fun i e => by cases e; rfl)) (fun i e => by have e : i = w.heap.size := e; omega)⟩

set_option maxRecDepth 100000 in
set_option maxHeartbeats 2000000 in
theorem radd_any (p : Nat) (v : Value) (bs : List UInt8) (w : World) (h : RwAt w p v bs) (a : Addr) (c : Nat) (cs : List UInt8) (hc : ∀ j z, (cs.map u8V)[j]? = some z → w.cell? (a.add j) = some z) (hl : bs.length + cs.length ≤ 1000000000) :
    Calls Tryz.prog 171 #[.pointer (some ⟨p, 0, none⟩), .slice (some a) cs.length c] w fun e w' => ∃ v', e = .returned (.tuple #[]) ∧ RwStep w p v w' v' (bs ++ cs) := by
  obtain ⟨i0, hi, hz0, hz1, hz2⟩ := info_parts info_u8
  have HI := Lib.hid hi
  have HZ0 := Lib.hid hz0
  have HZ1 := Lib.hid hz1
  have HZ2 := Lib.hid hz2
  clear hi hz0 hz1 hz2
  have c0 := h.blk.cell (i := 0) (v := .bool true) rfl
  have c1 := h.blk.cell (i := 1) (v := v) rfl
  have hrb : ∀ i, v.ownBlock = some i → p + 1 ≤ i ∧ i < w.heap.size := fun i e => h.row.lt i e
  have hp := h.blk.lt
  have H := Lib.hid h
  have HC := Lib.hid hc
  clear h hc
  go_enter Tryz.func171, Tryz.ntmps171
  go_wp2_with (first
    | (go_at_call 213; refine (rwvalid p w c0).mono ?_; rintro e w' ⟨rfl, rfl⟩)
    | (at_builtin; refine wpList_append_own_at _ rfl _ _ 26 rfl (p + 1) 5 i0 (.int .u8 0) 1 1 Tryz.underlying26 HI.out HZ0.out HZ1.out HZ2.out rfl (by decide) v _ _ rfl H.out.row a cs.length c (cs.map u8V) rfl (by simp) HC.out (u8_one cs) (by unfold maxLen; omega) (by omega) (by omega) ?_; intro v3 wa hra hga _ hoa; obtain ⟨a3, n3, c3, rfl⟩ : ∃ a3 n3 c3, v3 = Value.slice a3 n3 c3 := row_shape hra; have HRA := Lib.hid hra; have HOA := Lib.hid hoa; have fa0 : Fr (fun i => v.ownBlock = some i) w wa := Fr.of_grown hga (fun i e => e); have hBW := H.out.blk.fr fa0 (fun e => by have := hrb _ e; omega); have hc1 := hBW.cell (i := 1) (v := v) rfl; have hf1 := hBW.frozen 1; have HBW := Lib.hid hBW; have HFA := Lib.hid fa0; clear hra hga hoa hBW fa0))
  go_returns
  refine ⟨_, rfl, ⟨(HFA.out.mono (fun i e => .inr e)).setCell (.inl (.inl rfl)) _, fun i e => ?_, ⟨HBW.out.set 1 _, ?_⟩⟩⟩
  · rcases HOA.out with h | h
    · exact .inl (h ▸ e)
    · rw [h] at e
      cases e
      exact .inr (Nat.le_refl _)
  · have := ownsRow_setCell_below HRA.out (a := ⟨p, 1, none⟩) (show p < p + 1 by omega) (.slice a3 n3 c3)
    rw [List.length_append, List.map_append]
    exact this

theorem u8_lt (x : UInt8) : x.toNat < 256 := x.toNat_lt
theorem rwuint (p n : Nat) (v : Value) (bs : List UInt8) (w : World) (h : RwAt w p v bs) (hn : n < 18446744073709551616) (hl : bs.length ≤ 100000000) :
    Calls Tryz.prog 86 #[.pointer (some ⟨p, 0, none⟩), .int .u64 (n : Int)] w fun e w' => ∃ v', e = .returned (.tuple #[]) ∧ RwStep w p v w' v' (bs ++ uintB n) := by
  have hlen := uintB_len10 hn
  have H := Lib.hid h
  have HN := Lib.hid (rnum_any (n + 1) n w (by omega) hn)
  clear h
  go_enter Tryz.func86, Tryz.ntmps86
  go_wp2_with (first
    | (go_at_call 172; refine HN.out.mono ?_; rintro e w2 ⟨vo, rfl, ho, hb⟩; obtain ⟨a9, c9, rfl, hm9⟩ := lrow_cells ho (uintB_pos n); have HM9 := Lib.hid hm9; have HB := Lib.hid hb; clear ho hb hm9)
    | (go_at_call 171; refine (radd_any p v bs _ (H.out.below HB.out) a9 c9 (uintB n) HM9.out (by omega)).mono ?_; rintro e w3 ⟨v3, rfl, hs⟩; have HS := Lib.hid hs; clear hs))
  go_returns
  exact ⟨v3, rfl, (RwStep.below H.out HB.out).trans HS.out⟩
set_option maxRecDepth 100000 in
set_option maxHeartbeats 2000000 in
theorem rwtext (p : Nat) (v : Value) (bs : List UInt8) (s : ByteArray) (w : World) (h : RwAt w p v bs) (hs : s.size ≤ 1000000) (hl : bs.length ≤ 100000000) :
    Calls Tryz.prog 89 #[.pointer (some ⟨p, 0, none⟩), .string s] w fun e w' => ∃ v', e = .returned (.tuple #[]) ∧ RwStep w p v w' v' (bs ++ textB s.data.toList) := by
  have hsl : s.data.toList.length = s.size := by simp
  have hlen := uintB_len10 (n := s.size) (by omega)
  have H := Lib.hid h
  have HN := Lib.hid (rnum_any (s.size + 1) s.size w (by omega) (by omega))
  have HT : Hid (bs ++ textB s.data.toList = (bs ++ uintB s.size) ++ s.data.toList) := by rw [Hid, textB, hsl, List.append_assoc]
  have hcv : ∀ W : World, (convert 9 26 (.string s)).run Tryz.prog W = .ok (.slice (some ⟨W.heap.size, 0, none⟩) s.size (grownCap W s.size 0 5)) (Lib.bytesWorld W 5 s) := fun W => Lib.run_convert_string_bytes W _ _ _ s Tryz.underlying9 Tryz.underlying26 Tryz.underlying5
  have HADD : Hid (∀ (v3 : Value) (w2 w3 : World), RwStep w2 p v w3 v3 (bs ++ uintB s.size) → Calls Tryz.prog 171 #[.pointer (some ⟨p, 0, none⟩), .slice (some ⟨w3.heap.size, 0, none⟩) s.size (grownCap w3 s.size 0 5)] (Lib.bytesWorld w3 5 s) fun e w' => ∃ v', e = .returned (.tuple #[]) ∧ RwStep w3 p v3 w' v' ((bs ++ uintB s.size) ++ s.data.toList)) := fun v3 w2 w3 hst => by
    have hbw := bw_below w3 5 s
    have := radd_any p v3 (bs ++ uintB s.size) (Lib.bytesWorld w3 5 s) (hst.at_.below hbw) ⟨w3.heap.size, 0, none⟩ (grownCap w3 s.size 0 5) s.data.toList (fun j z hz => ?_) (by rw [List.length_append, hsl]; omega)
    · rw [hsl] at this
      refine this.mono ?_
      rintro e w' ⟨v', rfl, hs⟩
      exact ⟨v', rfl, (RwStep.below hst.at_ hbw).trans hs⟩
    · rw [List.getElem?_map] at hz
      cases hy : s.data.toList[j]? with
      | none => rw [hy] at hz; cases hz
      | some y =>
        rw [hy] at hz
        cases hz
        have hj : j < s.size := by rw [← hsl]; exact (List.getElem?_eq_some_iff.1 hy).1
        rw [Addr.add_lit, Nat.zero_add, Lib.bytesWorld_cell w3 _ s j hj]
        show some (Value.int .u8 _) = some (Value.int .u8 _)
        rw [List.getD_eq_getElem?_getD, hy]
        rfl
  rw [HT.out]
  clear h
  go_enter Tryz.func89, Tryz.ntmps89
  go_wp2_with (first
    | (go_at_call 172; refine HN.out.mono ?_; rintro e w2 ⟨vo, rfl, ho, hb⟩; obtain ⟨a9, c9, rfl, hm9⟩ := lrow_cells ho (uintB_pos s.size); have HM9 := Lib.hid hm9; have HB := Lib.hid hb; clear ho hb hm9)
    | (go_at_call 171; (with_reducible refine (radd_any p v bs _ (H.out.below HB.out) a9 c9 (uintB s.size) HM9.out ?_).mono ?_); omega; rintro e w3 ⟨v3, rfl, hs3⟩; have HS := Lib.hid hs3; clear hs3)
    | (go_at_call 171; (with_reducible refine (HADD.out _ _ _ HS.out).mono ?_); rintro e w4 ⟨v4, rfl, hs4⟩; have HS4 := Lib.hid hs4; clear hs4))
  go_returns
  exact ⟨v4, rfl, ((RwStep.below H.out HB.out).trans HS.out).trans HS4.out⟩
end Go.Proofs.YtlfikhblmbidmaaGreatDoor
