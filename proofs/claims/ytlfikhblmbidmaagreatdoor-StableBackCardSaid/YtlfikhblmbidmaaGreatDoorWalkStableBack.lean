/- The walk of skaldlaw17.StableBack: it returns true, and writes nothing that was there. -/
import Derived.Test.YtlfikhblmbidmaaGreatDoorTabF
import Derived.OpenShut
import Derived.Deep.DeepCutAuto
import Derived.Deep.CutBlock
import Derived.Deep.LoopGhost
import Derived.Deep.RegionHeld3
set_option linter.unusedVariables false
set_option linter.unusedSimpArgs false
namespace Go.Proofs.YtlfikhblmbidmaaGreatDoor.stableBack
open Go.RowKit Go.Shelf
theorem round_nat {a : Int} (h : (Lit.int .u32 a).wf = true) : 0 ≤ a ∧ a < 4294967296 := by
  simp [Lit.wf, IntKind.min, IntKind.max, IntKind.signed, IntKind.bits] at h
  omega
theorem of_nat {a : Int} (h : (Lit.int .u8 a).wf = true) : 0 ≤ a ∧ a < 256 := by
  simp [Lit.wf, IntKind.min, IntKind.max, IntKind.signed, IntKind.bits] at h
  omega
theorem slot_nat {a : Int} (h : (Lit.int .u16 a).wf = true) : 0 ≤ a ∧ a < 65536 := by
  simp [Lit.wf, IntKind.min, IntKind.max, IntKind.signed, IntKind.bits] at h
  omega
theorem sB_back (v : ByteArray) : sB v.data.toList = v := by
  obtain ⟨⟨x⟩⟩ := v
  simp [sB]
theorem okb {ro no : Nat} (h1 : 1 ≤ ro) (h2 : ro ≤ 1073741824) (h3 : no ≤ 6) : okB (ro : Int) (no : Int) = true := (okB_iff _ _).2 (by omega)
theorem uintB_le10 {n : Nat} (h : n < 18446744073709551616) : (uintB n).length ≤ 10 := uintB_len10 h

theorem bs_less {W : World} {A : Option Addr} {c : Nat} {b : List UInt8} (h : BsIn W (.slice A b.length c) b) : BsIn W (.slice A (b.length - 1) c) b.dropLast := by
  obtain ⟨A', c', he, h1, h2, h3⟩ := h
  simp only [Value.slice.injEq] at he
  obtain ⟨rfl, _, rfl⟩ := he
  refine ⟨A, c, by rw [List.length_dropLast], by rw [List.length_dropLast]; omega, h2, fun h0 => ?_⟩
  rw [List.length_dropLast] at h0
  obtain ⟨g, off, hA, hg, hc⟩ := h3 (by omega)
  refine ⟨g, off, hA, hg, fun i z hz => hc i z ?_⟩
  rw [List.getElem?_dropLast] at hz
  split at hz
  · exact hz
  · cases hz
theorem row_more {W : World} {lo : Nat} {v : Value} {b : List UInt8} (h : W.ownsRow lo 5 1 v (b.length + 1) (b.map u8V ++ [.int .u8 0])) : LRow W v (b ++ [0]) := by
  refine LRow.of_row (lo := lo) ?_
  rw [List.length_append, List.map_append]
  exact h
theorem bs_addr {W : World} {A : Option Addr} {c : Nat} {b : List UInt8} (h : BsIn W (.slice A b.length c) b) (hl : 1 ≤ b.length) : ∃ g off, A = some ⟨g, off, none⟩ ∧ b.length ≤ c := by
  obtain ⟨A', c', he, h1, h2, h3⟩ := h
  simp only [Value.slice.injEq] at he
  obtain ⟨rfl, _, rfl⟩ := he
  obtain ⟨g, off, hA, _⟩ := h3 (by omega)
  exact ⟨g, off, hA, h1⟩
theorem bal {a b : World} {o : Obj} (h : Below a.heap.size a b) : Below a.heap.size a (b.alloc o) := h.alloc h.size _
/-- What is to be known of a record's bytes. -/
structure RecK (B : List UInt8) (x : Rec) : Prop where
  yes : parseP B = some x
  less : parseP B.dropLast = none
  more : parseP (B ++ [0]) = none
  pos : 1 ≤ B.length
  long : B.length ≤ 65536
theorem RecK.of {x : Rec} (h : x.Ok) (hl : x.bytes.length ≤ 65536) : RecK x.bytes x := by
  have hy := parseP_enc h hl
  have hv := (parseP_some hy).2.1
  refine ⟨hy, parseP_less h hv, parseP_more h hv 0, ?_, hl⟩
  have := uintB_pos x.k
  simp only [Rec.bytes, List.length_append]
  omega
def NonP (e : Ending) (X Y : World) : Prop := e = .returned (.tuple #[.int .i64 0, .agg #[.int .i64 0, .int .i64 0], .int .i64 0, .string ⟨#[]⟩, .int .i64 10]) ∧ Below X.heap.size X Y

set_option maxRecDepth 100000 in
set_option maxHeartbeats 4000000 in
theorem walk (a0 a1 a2 : Int) (val : ByteArray) (v4 : Value) (zs : List Int) (w : World) (w0 : (Lit.int .u32 a0).wf = true) (w1 : (Lit.int .u8 a1).wf = true) (w2 : (Lit.int .u16 a2).wf = true) (w3 : val.size ≤ maxLen) (w4 : BytesIn w v4 zs) (ht : TabP w) :
    Calls Tryz.prog 5 #[.int .u32 a0, .int .u8 a1, .int .u16 a2, .string val, v4] w fun e w' => e = .returned (.bool true) ∧ Below w.heap.size w w' := by
  obtain ⟨A4, c4, rfl, hc4, hm4⟩ := w4.bsIn.shape
  have HB4 := Lib.hid w4.bsIn
  have HT := Lib.hid ht
  rw [bsOf_length] at hc4
  clear w4 ht
  by_cases h1 : 60000 < val.size
  · have h1' : decide ((val.size : Int) > 60000) = true := by simp; omega
    go_enter Tryz.func5, Tryz.ntmps5
    go_wp2_with (go_at_call 18; refine (works_any _ HT.out).mono ?_; rintro e w2 ⟨rfl, hb⟩; have HB := Lib.hid hb; clear hb)
    go_returns
    exact ⟨rfl, HB.out⟩
  · have h1' : decide ((val.size : Int) > 60000) = false := by simp; omega
    by_cases h2 : 300 < (bsOf zs).length
    · have h2' : decide ((((bsOf zs).length : Nat) : Int) > 300) = true := by simp; omega
      go_enter Tryz.func5, Tryz.ntmps5
      go_wp2_with (go_at_call 18; refine (works_any _ HT.out).mono ?_; rintro e w2 ⟨rfl, hb⟩; have HB := Lib.hid hb; clear hb)
      go_returns
      exact ⟨rfl, HB.out⟩
    · have h2' : decide ((((bsOf zs).length : Nat) : Int) > 300) = false := by simp; omega
      obtain ⟨n0, rfl⟩ := Int.eq_ofNat_of_zero_le (round_nat w0).1
      obtain ⟨n1, rfl⟩ := Int.eq_ofNat_of_zero_le (of_nat w1).1
      obtain ⟨n2, rfl⟩ := Int.eq_ofNat_of_zero_le (slot_nat w2).1
      have r0 := (round_nat w0).2
      have r1 := (of_nat w1).2
      have r2 := (slot_nat w2).2
      clear w0 w1 w2
      go_enter Tryz.func5, Tryz.ntmps5
      go_upto_region 4 with fail
      obtain ⟨ro, hro, hro1, hro2⟩ : ∃ ro : Nat, 1 + (n0 : Int) % 1073741824 = (ro : Int) ∧ 1 ≤ ro ∧ ro ≤ 1073741824 := ⟨1 + n0 % 1073741824, by omega, by omega, by omega⟩
      obtain ⟨no, hno, hno2⟩ : ∃ no : Nat, (n1 : Int) % 7 = (no : Int) ∧ no ≤ 6 := ⟨n1 % 7, by omega, by omega⟩
      obtain ⟨sl, hsl, hsl2⟩ : ∃ sl : Nat, (n2 : Int) % 4096 = (sl : Int) ∧ sl < 4096 := ⟨n2 % 4096, by omega, by omega⟩
      rw [hro, hno, hsl]
      clear hro hno hsl r0 r1 r2
      have hv2 : valB [2, ro, no, sl] val = (Rec.mk 2 ro no sl val.data.toList).bytes := by simp [valB, uintsB, Rec.bytes]
      have hv3 : valB [3, sl] val = (Rec.mk 3 0 0 sl val.data.toList).bytes := by simp [valB, uintsB, Rec.bytes]
      have hvl : val.data.toList.length ≤ 60000 := by
        have : val.data.toList.length = val.size := by simp
        omega
      have u1 := uintB_len10 (show ro < 18446744073709551616 by omega)
      have u2 := uintB_len10 (show no < 18446744073709551616 by omega)
      have u3 := uintB_len10 (show sl < 18446744073709551616 by omega)
      have u4 := uintB_len10 (show val.data.toList.length < 18446744073709551616 by omega)
      have u5 := uintB_len10 (show 1 < 18446744073709551616 by omega)
      have u6 := uintB_len10 (show 2 < 18446744073709551616 by omega)
      have u7 := uintB_len10 (show 3 < 18446744073709551616 by omega)
      have K1 : RecK (Rec.mk 1 ro no 0 []).bytes ⟨1, ro, no, 0, []⟩ := RecK.of ⟨by show 1 ≤ 1; decide, by show 1 ≤ 3; decide, fun _ => ⟨hro1, hro2, hno2⟩, fun h => by simp at h, fun h => by simp at h, fun _ => ⟨rfl, rfl⟩⟩ (by simp [Rec.bytes]; omega)
      have K2 : RecK (Rec.mk 2 ro no sl val.data.toList).bytes ⟨2, ro, no, sl, val.data.toList⟩ := RecK.of ⟨by show 1 ≤ 2; decide, by show 2 ≤ 3; decide, fun _ => ⟨hro1, hro2, hno2⟩, fun h => by simp at h, fun _ => by show sl ≤ 4095; omega, fun h => by simp at h⟩ (by simp [Rec.bytes, textB] at *; omega)
      have K3 : RecK (Rec.mk 3 0 0 sl val.data.toList).bytes ⟨3, 0, 0, sl, val.data.toList⟩ := RecK.of ⟨by show 1 ≤ 3; decide, by show 3 ≤ 3; decide, fun h => by simp at h, fun _ => ⟨rfl, rfl⟩, fun _ => by show sl ≤ 4095; omega, fun h => by simp at h⟩ (by simp [Rec.bytes, textB] at *; omega)
      have hok := okb hro1 hro2 hno2
      have KB0 := Lib.hid (Blk.new w 24 #[.int .i64 (ro : Int), .int .i64 (no : Int)])
      have e0 := KB0.out.cell (i := 0) (v := .int .i64 (ro : Int)) rfl
      have e1 := KB0.out.cell (i := 1) (v := .int .i64 (no : Int)) rfl
      have HB1 := Lib.hid (box_below w (.cells #[.int .i64 (ro : Int), .int .i64 (no : Int)] 24))
      have HK1 := Lib.hid K1
      have HK2 := Lib.hid K2
      have HK3 := Lib.hid K3
      have hq2 : (valB [2, ro, no, sl] val).length ≤ 65536 := by rw [hv2]; exact K2.long
      have hq3 : (valB [3, sl] val).length ≤ 65536 := by rw [hv3]; exact K3.long
      clear u1 u2 u3 u4 u5 u6 u7 K1 K2 K3
      go_upto_region 9 with (first
        | (go_at_call 11; refine (sprom_yes ro no _ hok).mono ?_; rintro e w2 ⟨vp, rfl, hp, hb2⟩; obtain ⟨A1, c1, rfl⟩ := row_len hp; have HP2 := Lib.hid (LRow.bsIn (LRow.of_row hp)); have HB2 := Lib.hid (bchain HB1.out hb2); have KB2 := Lib.hid (KB0.out.of_block (hb2.block _ (by simp))); have x0 := bcell hb2 e0; have x1 := bcell hb2 e1; clear hp hb2)
        | (go_at_call 12; refine (sacc_yes ro no sl val _ hok hsl2 (by omega) hq2).mono ?_; rintro e w3 ⟨vq, rfl, hq, hb3⟩; rw [hv2] at hq; obtain ⟨A2, c2, rfl⟩ := row_len hq; have HQ3 := Lib.hid (LRow.bsIn (LRow.of_row hq)); have HP3 := Lib.hid (HP2.out.below hb3); have HB3 := Lib.hid (bchain HB2.out hb3); have KB3 := Lib.hid (KB2.out.of_block (hb3.block _ KB2.out.lt)); clear hq hb3)
        | (go_at_call 13; refine (choose_yes sl val _ hsl2 (by omega) hq3).mono ?_; rintro e w4 ⟨vs, rfl, hs, hb4⟩; rw [hv3] at hs; obtain ⟨A3, c3, rfl⟩ := row_len hs; have HS4 := Lib.hid (LRow.bsIn (LRow.of_row hs)); have HQ4 := Lib.hid (HQ3.out.below hb4); have HP4 := Lib.hid (HP3.out.below hb4); have HB4' := Lib.hid (bchain HB3.out hb4); have KB4 := Lib.hid (KB3.out.of_block (hb4.block _ KB3.out.lt)); clear hs hb4))
      generalize (Rec.mk 1 ro no 0 []).bytes = B1 at *
      generalize (Rec.mk 2 ro no sl val.data.toList).bytes = B2 at *
      generalize (Rec.mk 3 0 0 sl val.data.toList).bytes = B3 at *
      have l1 := HK1.out.long
      have l2 := HK2.out.long
      have l3 := HK3.out.long
      have p1 := HK1.out.pos
      have p2 := HK2.out.pos
      have p3 := HK3.out.pos
      obtain ⟨g1, o1, rfl, m1⟩ := bs_addr HP4.out p1
      obtain ⟨g2, o2, rfl, m2⟩ := bs_addr HQ4.out p2
      obtain ⟨g3, o3, rfl, m3⟩ := bs_addr HS4.out p3
      have hs0 := box_below w4 (.cells #[.slice (some ⟨g1, o1, none⟩) B1.length c1, .slice (some ⟨g2, o2, none⟩) B2.length c2, .slice (some ⟨g3, o3, none⟩) B3.length c3] 26)
      have BJ1 := Lib.hid (HP4.out.below hs0)
      have BJ2 := Lib.hid (HQ4.out.below hs0)
      have BJ3 := Lib.hid (HS4.out.below hs0)
      have KA := Lib.hid (Blk.new w4 26 #[.slice (some ⟨g1, o1, none⟩) B1.length c1, .slice (some ⟨g2, o2, none⟩) B2.length c2, .slice (some ⟨g3, o3, none⟩) B3.length c3])
      have KB := Lib.hid (KB4.out.of_block (hs0.block _ KB4.out.lt))
      have HS1 := Lib.hid (Below.refl (w4.alloc (.cells #[.slice (some ⟨g1, o1, none⟩) B1.length c1, .slice (some ⟨g2, o2, none⟩) B2.length c2, .slice (some ⟨g3, o3, none⟩) B3.length c3] 26)).heap.size (w4.alloc (.cells #[.slice (some ⟨g1, o1, none⟩) B1.length c1, .slice (some ⟨g2, o2, none⟩) B2.length c2, .slice (some ⟨g3, o3, none⟩) B3.length c3] 26)))
      have HW0 := Lib.hid (bchain HB4'.out hs0)
      have HPa1 : Hid (∀ W, BsIn W (.slice (some ⟨g1, o1, none⟩) B1.length c1) B1 → Calls Tryz.prog 24 #[.slice (some ⟨g1, o1, none⟩) B1.length c1] W fun e Y => e = .returned (.tuple #[.int .i64 1, .agg #[.int .i64 (ro : Int), .int .i64 (no : Int)], .int .i64 0, .string ⟨#[]⟩, .int .i64 0]) ∧ Below W.heap.size W Y) := fun W h => Parse_some _ _ _ W h (by omega) HK1.out.yes
      have HPa2 : Hid (∀ W, BsIn W (.slice (some ⟨g2, o2, none⟩) B2.length c2) B2 → Calls Tryz.prog 24 #[.slice (some ⟨g2, o2, none⟩) B2.length c2] W fun e Y => e = .returned (.tuple #[.int .i64 2, .agg #[.int .i64 (ro : Int), .int .i64 (no : Int)], .int .i64 (sl : Int), .string val, .int .i64 0]) ∧ Below W.heap.size W Y) := fun W h => by
        have := Parse_some _ _ _ W h (by omega) HK2.out.yes
        rw [sB_back] at this
        exact this
      have HPa3 : Hid (∀ W, BsIn W (.slice (some ⟨g3, o3, none⟩) B3.length c3) B3 → Calls Tryz.prog 24 #[.slice (some ⟨g3, o3, none⟩) B3.length c3] W fun e Y => e = .returned (.tuple #[.int .i64 3, .agg #[.int .i64 0, .int .i64 0], .int .i64 (sl : Int), .string val, .int .i64 0]) ∧ Below W.heap.size W Y) := fun W h => by
        have := Parse_some _ _ _ W h (by omega) HK3.out.yes
        rw [sB_back] at this
        exact this
      have HPb : ∀ (B : List UInt8) (x : Rec), RecK B x → ∀ v W, BsIn W v B.dropLast → Calls Tryz.prog 24 #[v] W fun e Y => e = .returned (.tuple #[.int .i64 0, .agg #[.int .i64 0, .int .i64 0], .int .i64 0, .string ⟨#[]⟩, .int .i64 10]) ∧ Below W.heap.size W Y := fun B x hk v W h => Parse_none _ _ W h (by have := hk.long; rw [List.length_dropLast]; omega) hk.less
      have HPc : ∀ (B : List UInt8) (x : Rec), RecK B x → ∀ v W, BsIn W v (B ++ [0]) → Calls Tryz.prog 24 #[v] W fun e Y => e = .returned (.tuple #[.int .i64 0, .agg #[.int .i64 0, .int .i64 0], .int .i64 0, .string ⟨#[]⟩, .int .i64 10]) ∧ Below W.heap.size W Y := fun B x hk v W h => Parse_none _ _ W h (by have := hk.long; rw [List.length_append]; simp; omega) hk.more
      have HPb1 := Lib.hid (fun W => HPb B1 _ HK1.out (.slice (some ⟨g1, o1, none⟩) (B1.length - 1) c1) W)
      have HPb2 := Lib.hid (fun W => HPb B2 _ HK2.out (.slice (some ⟨g2, o2, none⟩) (B2.length - 1) c2) W)
      have HPb3 := Lib.hid (fun W => HPb B3 _ HK3.out (.slice (some ⟨g3, o3, none⟩) (B3.length - 1) c3) W)
      have HPc1 := Lib.hid (HPc B1 _ HK1.out)
      have HPc2 := Lib.hid (HPc B2 _ HK2.out)
      have HPc3 := Lib.hid (HPc B3 _ HK3.out)
      obtain ⟨i0, hi0, hz0, hz1, hz2⟩ := info_parts info_u8
      have HI := Lib.hid hi0
      have HZ0 := Lib.hid hz0
      have HZ1 := Lib.hid hz1
      have HZ2 := Lib.hid hz2
      have hE24 := fun (a b c d : Int) (w : World) => eqBal a b c d w
      have hG24 := eqGBal
      have hBz := fun w => bldBal0 w
      have hvv : (val.toList == val.toList) = true := by simp
      clear hi0 hz0 hz1 hz2 HPb HPc hs0 HP2 HP3 HP4 HQ3 HQ4 HS4 KB0 KB2 KB3 KB4 HB1 HB2 HB3 HB4' x0 x1 e0 e1 hv2 hv3 hq2 hq3 hvl hok
      go_wp2_with fail
      refine wp_loop_rounds 4 ?_
      rw [rounds_succ]
      have hx1 := KA.out.cell (i := 0) (v := .slice (some ⟨g1, o1, none⟩) B1.length c1) rfl
      go_wp2_with (first
        | (go_at_call 24; (with_reducible refine (HPa1.out _ ?_).mono ?_); exact (BJ1.out.below HS1.out); rintro e wa1 ⟨rfl, hb⟩; have HA1 := Lib.hid (bchain HS1.out hb); have kb := KB.out.of_block (HA1.out.block _ KB.out.lt); have ea1 : ∀ o, (wa1.alloc o).cell? ⟨w.heap.size, 0, none⟩ = some (.int .i64 (ro : Int)) := (fun o => (kb.alloc o).cell rfl); have eb1 : ∀ o, (wa1.alloc o).cell? ⟨w.heap.size, 1, none⟩ = some (.int .i64 (no : Int)) := (fun o => (kb.alloc o).cell rfl); clear hb kb)
        | (go_at_call 24; (with_reducible refine (HPb1.out _ ?_).mono ?_); exact (bs_less (BJ1.out.below (bal (bal (bal HA1.out))))); rintro e wb1 ⟨rfl, hb⟩; have HBb1 := Lib.hid (bchain (bal (bal (bal HA1.out))) hb); clear hb ea1 eb1)
        | (go_at_call 23; refine (bclone_any _ B1 _ (BJ1.out.below (bal HBb1.out)) (by omega)).mono ?_; rintro e wc1 ⟨vc1, rfl, hrow, hb⟩; obtain ⟨Ac1, cc1, rfl⟩ := row_len hrow; have HR1 := Lib.hid hrow; have HC1 := Lib.hid (bchain (bal HBb1.out) hb); have hz1 := hb.size; clear hb hrow)
        | (at_builtin; refine wpList_append_own _ rfl _ _ 26 rfl (wb1.alloc (.cells #[.int .i64 0, .int .i64 0] 24)).heap.size 5 i0 (.int .u8 0) 1 1 Tryz.underlying26 HI.out HZ0.out HZ1.out HZ2.out rfl (by decide) _ _ _ rfl (World.ownsRow.alloc HR1.out _) ⟨wc1.heap.size, 0, none⟩ 1 1 [.int .u8 0] rfl rfl (cell_one_new _ _ _) (by simp [Value.oneCell']) (by unfold maxLen; omega) (by omega) (by simp at hz1 ⊢; omega) ?_; intro v' wd1 hown' hgrow _; have HO1 := Lib.hid (LRow.bsIn (row_more hown')); have HD1 := Lib.hid ((bal HC1.out).trans ((Fr.of_grown hgrow (fun i e => e)).below (by have := (bal (o := .cells #[.int .u8 0] 5) HC1.out).size; exact this) (fun i e => Nat.le_trans (bal (o := (.cells #[.int .i64 0, .int .i64 0] 24)) HBb1.out).size (HR1.out.lt i e).1))); clear hown' hgrow)
        | (go_at_call 24; (with_reducible refine (HPc1.out _ _ ?_).mono ?_); exact HO1.out; rintro e we1 ⟨rfl, hb⟩; have HE1 := Lib.hid (bchain HD1.out hb); have HS2 := Lib.hid (bal (o := (.cells #[.int .i64 0, .int .i64 0] 24)) HE1.out); clear hb))
      rw [rounds_succ]
      have hx2 := KA.out.cell (i := 1) (v := .slice (some ⟨g2, o2, none⟩) B2.length c2) rfl
      have hx2 := ((KA.out.of_block (HE1.out.block _ KA.out.lt)).alloc (.cells #[.int .i64 0, .int .i64 0] 24)).cell (i := 1) (v := .slice (some ⟨g2, o2, none⟩) B2.length c2) rfl
      go_wp2_with (first
        | (go_at_call 24; (with_reducible refine (HPa2.out _ ?_).mono ?_); exact (BJ2.out.below HS2.out); rintro e wa2 ⟨rfl, hb⟩; have HA2 := Lib.hid (bchain HS2.out hb); have kb := KB.out.of_block (HA2.out.block _ KB.out.lt); have ea2 : ∀ o, (wa2.alloc o).cell? ⟨w.heap.size, 0, none⟩ = some (.int .i64 (ro : Int)) := (fun o => (kb.alloc o).cell rfl); have eb2 : ∀ o, (wa2.alloc o).cell? ⟨w.heap.size, 1, none⟩ = some (.int .i64 (no : Int)) := (fun o => (kb.alloc o).cell rfl); clear hb kb)
        | (go_at_call 24; (with_reducible refine (HPb2.out _ ?_).mono ?_); exact (bs_less (BJ2.out.below (bal (bal (bal HA2.out))))); rintro e wb2 ⟨rfl, hb⟩; have HBb2 := Lib.hid (bchain (bal (bal (bal HA2.out))) hb); clear hb ea2 eb2)
        | (go_at_call 23; refine (bclone_any _ B2 _ (BJ2.out.below (bal HBb2.out)) (by omega)).mono ?_; rintro e wc2 ⟨vc2, rfl, hrow, hb⟩; obtain ⟨Ac2, cc2, rfl⟩ := row_len hrow; have HR2 := Lib.hid hrow; have HC2 := Lib.hid (bchain (bal HBb2.out) hb); have hz2 := hb.size; clear hb hrow)
        | (at_builtin; refine wpList_append_own _ rfl _ _ 26 rfl (wb2.alloc (.cells #[.int .i64 0, .int .i64 0] 24)).heap.size 5 i0 (.int .u8 0) 1 1 Tryz.underlying26 HI.out HZ0.out HZ1.out HZ2.out rfl (by decide) _ _ _ rfl (World.ownsRow.alloc HR2.out _) ⟨wc2.heap.size, 0, none⟩ 1 1 [.int .u8 0] rfl rfl (cell_one_new _ _ _) (by simp [Value.oneCell']) (by unfold maxLen; omega) (by omega) (by simp at hz2 ⊢; omega) ?_; intro v' wd2 hown' hgrow _; have HO2 := Lib.hid (LRow.bsIn (row_more hown')); have HD2 := Lib.hid ((bal HC2.out).trans ((Fr.of_grown hgrow (fun i e => e)).below (by have := (bal (o := .cells #[.int .u8 0] 5) HC2.out).size; exact this) (fun i e => Nat.le_trans (bal (o := (.cells #[.int .i64 0, .int .i64 0] 24)) HBb2.out).size (HR2.out.lt i e).1))); clear hown' hgrow)
        | (go_at_call 24; (with_reducible refine (HPc2.out _ _ ?_).mono ?_); exact HO2.out; rintro e we2 ⟨rfl, hb⟩; have HE2 := Lib.hid (bchain HD2.out hb); have HS3 := Lib.hid (bal (o := (.cells #[.int .i64 0, .int .i64 0] 24)) HE2.out); clear hb))
      rw [rounds_succ]
      have hx3 := KA.out.cell (i := 2) (v := .slice (some ⟨g3, o3, none⟩) B3.length c3) rfl
      have hx3 := ((KA.out.of_block (HE2.out.block _ KA.out.lt)).alloc (.cells #[.int .i64 0, .int .i64 0] 24)).cell (i := 2) (v := .slice (some ⟨g3, o3, none⟩) B3.length c3) rfl
      go_wp2_with (first
        | (go_at_call 24; (with_reducible refine (HPa3.out _ ?_).mono ?_); exact (BJ3.out.below HS3.out); rintro e wa3 ⟨rfl, hb⟩; have HA3 := Lib.hid (bchain HS3.out hb); have kb := KB.out.of_block (HA3.out.block _ KB.out.lt); have ea3 : ∀ o, (wa3.alloc o).cell? ⟨w.heap.size, 0, none⟩ = some (.int .i64 (ro : Int)) := (fun o => (kb.alloc o).cell rfl); have eb3 : ∀ o, (wa3.alloc o).cell? ⟨w.heap.size, 1, none⟩ = some (.int .i64 (no : Int)) := (fun o => (kb.alloc o).cell rfl); clear hb kb)
        | (go_at_call 24; (with_reducible refine (HPb3.out _ ?_).mono ?_); exact (bs_less (BJ3.out.below (bal (bal (bal HA3.out))))); rintro e wb3 ⟨rfl, hb⟩; have HBb3 := Lib.hid (bchain (bal (bal (bal HA3.out))) hb); clear hb ea3 eb3)
        | (go_at_call 23; refine (bclone_any _ B3 _ (BJ3.out.below (bal HBb3.out)) (by omega)).mono ?_; rintro e wc3 ⟨vc3, rfl, hrow, hb⟩; obtain ⟨Ac3, cc3, rfl⟩ := row_len hrow; have HR3 := Lib.hid hrow; have HC3 := Lib.hid (bchain (bal HBb3.out) hb); have hz3 := hb.size; clear hb hrow)
        | (at_builtin; refine wpList_append_own _ rfl _ _ 26 rfl (wb3.alloc (.cells #[.int .i64 0, .int .i64 0] 24)).heap.size 5 i0 (.int .u8 0) 1 1 Tryz.underlying26 HI.out HZ0.out HZ1.out HZ2.out rfl (by decide) _ _ _ rfl (World.ownsRow.alloc HR3.out _) ⟨wc3.heap.size, 0, none⟩ 1 1 [.int .u8 0] rfl rfl (cell_one_new _ _ _) (by simp [Value.oneCell']) (by unfold maxLen; omega) (by omega) (by simp at hz3 ⊢; omega) ?_; intro v' wd3 hown' hgrow _; have HO3 := Lib.hid (LRow.bsIn (row_more hown')); have HD3 := Lib.hid ((bal HC3.out).trans ((Fr.of_grown hgrow (fun i e => e)).below (by have := (bal (o := .cells #[.int .u8 0] 5) HC3.out).size; exact this) (fun i e => Nat.le_trans (bal (o := (.cells #[.int .i64 0, .int .i64 0] 24)) HBb3.out).size (HR3.out.lt i e).1))); clear hown' hgrow)
        | (go_at_call 24; (with_reducible refine (HPc3.out _ _ ?_).mono ?_); exact HO3.out; rintro e we3 ⟨rfl, hb⟩; have HE3 := Lib.hid (bchain HD3.out hb); have HS4 := Lib.hid (bal (o := (.cells #[.int .i64 0, .int .i64 0] 24)) HE3.out); clear hb))
      rw [rounds_succ]
      have HX := Lib.hid (bchain HW0.out HS4.out)
      have hbl : (bsOf zs).length ≤ 300 := by omega
      have HBX := Lib.hid (HB4.out.below HX.out)
      clear HS1 HS2 HS3 HA1 HA2 HA3 HBb1 HBb2 HBb3 HC1 HC2 HC3 HD1 HD2 HD3 HE1 HE2 HE3 HR1 HR2 HR3 HO1 HO2 HO3 HPa1 HPa2 HPa3 HPb1 HPb2 HPb3 HPc1 HPc2 HPc3 BJ1 BJ2 BJ3 KA KB HK1 HK2 HK3
      cases hp : parseP (bsOf zs) with
      | none =>
        have HPN := Lib.hid (Parse_none _ _ _ HBX.out (by omega) hp)
        clear hp
        go_wp2_with (first
          | (go_at_call 24; refine HPN.out.mono ?_; rintro e wf ⟨rfl, hb⟩; have HF := Lib.hid (bchain HX.out hb); clear hb)
          | (go_at_call 18; refine (works_any _ (HT.out.below (bal HF.out))).mono ?_; rintro e wg ⟨rfl, hb⟩; have HG := Lib.hid (bchain (bal HF.out) hb); clear hb))
        go_returns
        exact ⟨rfl, HG.out⟩
      | some x =>
        obtain ⟨hOk, hxv, hbx, _⟩ := parseP_some hp
        have hps := Parse_some _ _ _ _ HBX.out (by omega) hp
        obtain ⟨k, rx, nx, sx, vx⟩ := x
        obtain ⟨k1, k3, kb1, kb0, ks1, ks0⟩ := hOk
        simp only at k1 k3 kb1 kb0 ks1 ks0 hxv hps
        have HBE := Lib.hid hbx
        have hxs : (sB vx).size ≤ 1000000 := by
          have : (sB vx).size = vx.length := by simp [sB, ByteArray.size]
          omega
        have hsx : (sB vx).data.toList = vx := by simp [sB]
        rcases (show k = 1 ∨ k = 2 ∨ k = 3 by omega) with rfl | rfl | rfl
        · obtain ⟨rfl, rfl⟩ := ks0 rfl
          have hkb := kb1 (by decide)
          have hok := okb hkb.1 hkb.2.1 hkb.2.2
          have HPS := Lib.hid hps
          clear hps hp hbx
          go_wp2_with (first
            | (go_at_call 24; refine HPS.out.mono ?_; rintro e wf ⟨rfl, hb⟩; have HF := Lib.hid (bchain HX.out hb); clear hb)
            | (go_at_call 11; refine (sprom_yes rx nx _ hok).mono ?_; rintro e wg ⟨va, rfl, hva, hb⟩; rw [← HBE.out] at hva; obtain ⟨Av, cv, rfl⟩ := row_len hva; have HVA := Lib.hid (LRow.bsIn (LRow.of_row hva)); have HG := Lib.hid (bchain (bal HF.out) hb); clear hb hva)
            | (go_at_call 22; refine (bequal_same _ _ (bsOf zs) _ HVA.out (HB4.out.below HG.out)).mono ?_; rintro e wh ⟨rfl, rfl⟩)
            | (go_at_call 18; refine (works_any _ (HT.out.below HG.out)).mono ?_; rintro e wh ⟨rfl, hb⟩; have HH := Lib.hid (bchain HG.out hb); clear hb))
          go_returns
          exact ⟨rfl, HH.out⟩
        · have hkb := kb1 (by decide)
          have hok := okb hkb.1 hkb.2.1 hkb.2.2
          have hks := ks1 (by decide)
          have hval : valB [2, rx, nx, sx] (sB vx) = bsOf zs := by rw [HBE.out]; simp [valB, uintsB, Rec.bytes, hsx]
          have hvl2 : (valB [2, rx, nx, sx] (sB vx)).length ≤ 65536 := by rw [hval]; omega
          have HVL := Lib.hid hval
          have HPS := Lib.hid hps
          clear hps hp hbx hval
          go_wp2_with (first
            | (go_at_call 24; refine HPS.out.mono ?_; rintro e wf ⟨rfl, hb⟩; have HF := Lib.hid (bchain HX.out hb); clear hb)
            | (go_at_call 12; refine (sacc_yes rx nx sx (sB vx) _ hok (by omega) hxs hvl2).mono ?_; rintro e wg ⟨va, rfl, hva, hb⟩; rw [HVL.out] at hva; obtain ⟨Av, cv, rfl⟩ := row_len hva; have HVA := Lib.hid (LRow.bsIn (LRow.of_row hva)); have HG := Lib.hid (bchain (bal HF.out) hb); clear hb hva)
            | (go_at_call 22; refine (bequal_same _ _ (bsOf zs) _ HVA.out (HB4.out.below HG.out)).mono ?_; rintro e wh ⟨rfl, rfl⟩)
            | (go_at_call 18; refine (works_any _ (HT.out.below HG.out)).mono ?_; rintro e wh ⟨rfl, hb⟩; have HH := Lib.hid (bchain HG.out hb); clear hb))
          go_returns
          exact ⟨rfl, HH.out⟩
        · obtain ⟨rfl, rfl⟩ := kb0 rfl
          have hks := ks1 (by decide)
          have hval : valB [3, sx] (sB vx) = bsOf zs := by rw [HBE.out]; simp [valB, uintsB, Rec.bytes, hsx]
          have hvl2 : (valB [3, sx] (sB vx)).length ≤ 65536 := by rw [hval]; omega
          have HVL := Lib.hid hval
          have HPS := Lib.hid hps
          clear hps hp hbx hval
          go_wp2_with (first
            | (go_at_call 24; refine HPS.out.mono ?_; rintro e wf ⟨rfl, hb⟩; have HF := Lib.hid (bchain HX.out hb); clear hb)
            | (go_at_call 13; refine (choose_yes sx (sB vx) _ (by omega) hxs hvl2).mono ?_; rintro e wg ⟨va, rfl, hva, hb⟩; rw [HVL.out] at hva; obtain ⟨Av, cv, rfl⟩ := row_len hva; have HVA := Lib.hid (LRow.bsIn (LRow.of_row hva)); have HG := Lib.hid (bchain (bal HF.out) hb); clear hb hva)
            | (go_at_call 22; refine (bequal_same _ _ (bsOf zs) _ HVA.out (HB4.out.below HG.out)).mono ?_; rintro e wh ⟨rfl, rfl⟩)
            | (go_at_call 18; refine (works_any _ (HT.out.below HG.out)).mono ?_; rintro e wh ⟨rfl, hb⟩; have HH := Lib.hid (bchain HG.out hb); clear hb))
          go_returns
          exact ⟨rfl, HH.out⟩
end Go.Proofs.YtlfikhblmbidmaaGreatDoor.stableBack
