/- Laid together by gen/merge.py: CrcR CrcS R4A R4B R4C R4D R4E R4F R16A R16B. -/
import Derived.Test.YtlfikhblmbidmaaGreatDoorMrgH
import Derived.Test.YtlfikhblmbidmaaGreatDoorMrgI
import Derived.Deep.RegionHeld3
import Derived.Test.YtlfikhblmbidmaaGreatDoorSltG
set_option linter.all false
namespace Go.Proofs.YtlfikhblmbidmaaGreatDoor
def stepN (r : Nat) : Nat := if r % 2 = 1 then (r / 2) ^^^ 3988292384 else r / 2
theorem stepN_lt {r : Nat} (h : r < 4294967296) : stepN r < 4294967296 := by
 unfold stepN
 split
 ·exact Nat.xor_lt_two_pow (n := 32) (by omega) (by decide)
 ·omega
theorem xor_half (a b : Nat) : (a ^^^ b) / 2 = (a / 2) ^^^ (b / 2) := by
 have := Nat.shiftRight_xor_distrib (a := a) (b := b) (i := 1)
 simpa [Nat.shiftRight_succ] using this
theorem stepN_xor (a b : Nat) : stepN (a ^^^ b) = stepN a ^^^ stepN b := by
 have hm : (a ^^^ b) % 2 = (a % 2 + b % 2) % 2 := by
  have h1 : (a ^^^ b) % 2 = (a % 2) ^^^ (b % 2) := by
   have := Nat.xor_mod_two_pow (a := a) (b := b) (n := 1)
   simpa using this
  rw [h1]
  rcases Nat.mod_two_eq_zero_or_one a with h | h <;> rcases Nat.mod_two_eq_zero_or_one b with h' | h' <;> simp [h, h']
 unfold stepN
 rcases Nat.mod_two_eq_zero_or_one a with h | h <;> rcases Nat.mod_two_eq_zero_or_one b with h' | h'
 ·rw [if_neg (by omega), if_neg (by omega), if_neg (by omega), xor_half]
 ·rw [if_pos (by omega), if_neg (by omega), if_pos h', xor_half, Nat.xor_assoc]
 ·rw [if_pos (by omega), if_pos h, if_neg (by omega), xor_half, Nat.xor_assoc, Nat.xor_assoc, Nat.xor_comm (b / 2)]
 ·rw [if_neg (by omega), if_pos h, if_pos h', xor_half]
  generalize a / 2 = x
  generalize b / 2 = y
  have e : (x ^^^ 3988292384) ^^^ (y ^^^ 3988292384) = (x ^^^ y) ^^^ (3988292384 ^^^ 3988292384) := by
   rw [Nat.xor_assoc, Nat.xor_comm 3988292384 (y ^^^ 3988292384), Nat.xor_assoc y, ← Nat.xor_assoc x y]
  rw [e, Nat.xor_self, Nat.xor_zero]
theorem stepN_even (m : Nat) : stepN (2 * m) = m := by
 unfold stepN
 rw [if_neg (by omega)]
 omega
theorem step4 (q s : Nat) (h : s < 16) : stepN (stepN (stepN (stepN (16 * q + s)))) = q ^^^ stepN (stepN (stepN (stepN s))) := by
 have key : ∀ (a b : Nat), a % 2 = 0 → stepN (a + b) = (a / 2) ^^^ stepN b ∨ True := fun _ _ _ => .inr trivial
 have e : 16 * q + s = (16 * q) ^^^ s := by
  refine Nat.eq_of_testBit_eq fun i => ?_
  rw [Nat.testBit_xor, show 16 * q = 2 ^ 4 * q by rfl, Nat.testBit_two_pow_mul_add q (show s < 2 ^ 4 by exact h)]
  rw [Nat.testBit_two_pow_mul]
  by_cases hi : i < 4
  ·rw [if_pos hi]
   simp [show ¬ 4 ≤ i by omega]
  ·rw [if_neg hi]
   have : s.testBit i = false := Nat.testBit_lt_two_pow (Nat.lt_of_lt_of_le h (by
    have : 2 ^ 4 ≤ 2 ^ i := Nat.pow_le_pow_right (by decide) (by omega)
    exact this))
   rw [this]
   simp [show 4 ≤ i by omega]
 rw [e, stepN_xor, stepN_xor, stepN_xor, stepN_xor]
 congr 1
 rw [show 16 * q = 2 * (8 * q) by omega, stepN_even, show 8 * q = 2 * (4 * q) by omega, stepN_even, show 4 * q = 2 * (2 * q) by omega, stepN_even, stepN_even]
theorem step4_four {r : Nat} : stepN (stepN (stepN (stepN r))) = crcFour r := by
 have h16 : r % 16 < 16 := Nat.mod_lt _ (by decide)
 have e := step4 (r / 16) (r % 16) h16
 rw [show 16 * (r / 16) + r % 16 = r by omega] at e
 rw [e]
 unfold crcFour
 congr 1
 have key : ∀ s : Fin 16, stepN (stepN (stepN (stepN s.val))) = fours16.getD s.val 0 := by decide
 exact key ⟨r % 16, h16⟩
def stepK : Nat → Nat → Nat
 | 0, r => r
 | k + 1, r => stepK k (stepN r)
theorem step8_eight (r : Nat) : stepK 8 r = crcEight r := by
 show stepN (stepN (stepN (stepN (stepN (stepN (stepN (stepN r))))))) = _
 rw [step4_four, step4_four]
 rfl
theorem stepK_snoc : ∀ (k r : Nat), stepK (k + 1) r = stepN (stepK k r)
 | 0, r => rfl
 | k + 1, r => stepK_snoc k (stepN r)
theorem stepK_lt : ∀ (k : Nat) {r : Nat}, r < 4294967296 → stepK k r < 4294967296
 | 0, r, h => h
 | k + 1, r, h => stepK_lt k (stepN_lt h)
end Go.Proofs.YtlfikhblmbidmaaGreatDoor
namespace Go.Proofs.YtlfikhblmbidmaaGreatDoor
open Go.RowKit Go.Maps
theorem rstep_any (r : Nat) (w : World) (h : r < 4294967296) : Calls Tryz.prog 246 #[.int .u32 (r : Int)] w fun e w' => e = .returned (.int .u32 (stepN r : Nat)) ∧ w = w' := by
 unfold stepN
 obtain ⟨m, hm⟩ : ∃ m, r / 2 = m := ⟨_, rfl⟩
 have hq : (r : Int) / 2 = (m : Int) := by omega
 have hx : bits .xor .u32 (m : Int) 3988292384 = ((m ^^^ 3988292384 : Nat) : Int) := xor32 (a := m) (b := 3988292384) (by omega) (by decide)
 rw [hm]
 have hr9 : (r : Int) < 4294967296 := by omega
 generalize m ^^^ 3988292384 = y at *
 clear hm
 by_cases h1 : r % 2 = 1
 ·have hz : (r : Int) % 2 = 1 := by omega
  rw [if_pos h1]
  clear h1
  go_enter Tryz.func246, Tryz.ntmps246
  go_wp2_with fail
  go_returns
  exact ⟨rfl, rfl⟩
 ·have hz : (r : Int) % 2 = 0 := by omega
  rw [if_neg h1]
  clear h1
  go_enter Tryz.func246, Tryz.ntmps246
  go_wp2_with fail
  go_returns
  exact ⟨rfl, rfl⟩
theorem rtake_any (r c : Nat) (w : World) (h : r < 4294967296) (hc : c < 256) : Calls Tryz.prog 232 #[.int .u32 (r : Int), .int .u8 (c : Int)] w fun e w' => e = .returned (.int .u32 (crcEight (r ^^^ c) : Nat)) ∧ w = w' := by
 have hx : bits .xor .u32 (r : Int) (c : Int) = ((r ^^^ c : Nat) : Int) := xor32 h (by omega)
 have hy := Nat.xor_lt_two_pow (n := 32) h (show c < 2 ^ 32 by omega)
 obtain ⟨y, hye⟩ : ∃ y, r ^^^ c = y := ⟨_, rfl⟩
 rw [hye] at hx hy ⊢
 rw [← step8_eight]
 have hw8 : IntKind.u32.wrap (c : Int) = (c : Int) := by simp [IntKind.wrap, IntKind.signed, IntKind.bits]; omega
 clear hye
 go_enter Tryz.func232, Tryz.ntmps232
 go_wp2_with fail
 go_loopg [0, 5] 8 (fun gh cr ci wr => ∃ i : Nat, i ≤ 8 ∧ gh = 8 - i ∧ ci = .int .i64 (i : Int) ∧ cr = .int .u32 (stepK i y : Nat) ∧ wr = w)
 case atStart => exact ⟨0, by omega, rfl, rfl, rfl, rfl⟩
 case round =>
  obtain ⟨i, hi, rfl, rfl, rfl, rfl⟩ := hrel
  by_cases hlt : i < 8
  ·have hk := stepK_lt i hy
   have es := stepK_snoc i y
   generalize stepK i y = z at *
   go_wp2_with (go_at_call 246; refine (rstep_any z _ hk).mono ?_; rintro e w2 ⟨rfl, rfl⟩)
   go_roundg (8 - (i + 1))
   case measure => omega
   case rel => exact ⟨i + 1, by omega, rfl, by go_num, by rw [es], rfl⟩
  ·obtain rfl : i = 8 := by omega
   go_wp2_with fail
   go_returns
   exact ⟨rfl, rfl⟩
theorem rmore_any (v : Value) (bs : List UInt8) (w : World) (hv : BsIn w v bs) : Calls Tryz.prog 218 #[.int .u32 0, v] w fun e w' => e = .returned (.int .u32 (crcSum bs : Nat)) ∧ w = w' := by
 obtain ⟨A, cap, rfl, hle, hmax, hcell⟩ := hv
 have n1 : bits .xor .u32 4294967295 0 = 4294967295 := by decide
 have n2 : bits .xor .u32 IntKind.u32.max (crcReg 4294967295 bs : Int) = (crcSum bs : Int) := xor32 (a := 4294967295) (b := crcReg 4294967295 bs) (by decide) (crcReg_lt bs _ (by decide))
 have HC := Lib.hid hcell
 have hm9 : cap ≤ 9223372036854775807 := by unfold maxLen at hmax; omega
 clear hcell hmax
 go_enter Tryz.func218, Tryz.ntmps218
 go_wp2_with fail
 go_loopg [5, 6] bs.length (fun gh cr ci wr => ∃ i : Nat, i ≤ bs.length ∧ gh = bs.length - i ∧ ci = .int .i64 (i : Int) ∧ cr = .int .u32 (crcReg 4294967295 (bs.take i) : Nat) ∧ wr = w)
 case atStart => exact ⟨0, Nat.zero_le _, rfl, rfl, rfl, rfl⟩
 case round =>
  obtain ⟨i, hi, rfl, rfl, rfl, hwr⟩ := hrel
  subst hwr
  by_cases hlt : i < bs.length
  ·obtain ⟨z, hz⟩ : ∃ z, bs[i]? = some z := ⟨_, List.getElem?_eq_getElem hlt⟩
   obtain ⟨b, off, rfl, hb, hc⟩ := HC.out (by omega)
   have hcz := hc i z hz
   have hr := crcReg_lt (bs.take i) 4294967295 (by decide)
   have hzt := z.toNat_lt
   have e1 : crcReg 4294967295 (bs.take (i + 1)) = crcEight (crcReg 4294967295 (bs.take i) ^^^ z.toNat) := by
    rw [List.take_add_one, hz]
    exact crcReg_snoc _ _ _
   have hcz : wr.cell? ⟨b, off + i, none⟩ = some (.int .u8 (z.toNat : Int)) := hcz
   have E1 := Lib.hid e1
   clear e1 hc hz
   generalize crcReg 4294967295 (bs.take i) = y at *
   go_wp2_with (go_at_call 232; refine (rtake_any y z.toNat _ hr (by omega)).mono ?_; rintro e w2 ⟨rfl, rfl⟩)
   go_roundg (bs.length - (i + 1))
   case measure => omega
   case rel => exact ⟨i + 1, by omega, rfl, by go_num, by rw [E1.out], rfl⟩
  ·obtain rfl : i = bs.length := by omega
   rw [List.take_length]
   go_wp2_with fail
   go_returns
   exact ⟨rfl, rfl⟩
theorem rsum_any (v : Value) (bs : List UInt8) (w : World) (hv : BsIn w v bs) : Calls Tryz.prog 191 #[v] w fun e w' => e = .returned (.int .u32 (crcSum bs : Nat)) ∧ w = w' := by
 have HM := Lib.hid (rmore_any v bs w hv)
 clear hv
 go_enter Tryz.func191, Tryz.ntmps191
 go_wp2_with (go_at_call 218; refine HM.out.mono ?_; rintro e w2 ⟨rfl, rfl⟩)
 go_returns
 exact ⟨rfl, rfl⟩
end Go.Proofs.YtlfikhblmbidmaaGreatDoor
namespace Go.Proofs.YtlfikhblmbidmaaGreatDoor
open Go.RowKit Go.Maps
theorem i64_or_nat (a b : Nat) (ha : a < 4294967296) (hb : b < 4294967296) : bits .or .i64 (a : Int) (b : Int) = ((a ||| b : Nat) : Int) := by
 have hx : a ||| b < 2 ^ 32 := Nat.or_lt_two_pow (by omega) (by omega)
 show IntKind.i64.wrap ((BitVec.ofInt 64 (a : Int) ||| BitVec.ofInt 64 (b : Int)).toNat : Int) = _
 have e : ∀ c : Nat, c < 4294967296 → (BitVec.ofInt 64 (c : Int)).toNat = c := fun c hc => by
  rw [BitVec.toNat_ofInt]
  omega
 rw [BitVec.toNat_or, e a ha, e b hb, IntKind.wrap_i64]
 omega
theorem be4_or {x0 x1 x2 x3 : Nat} (t0 : x0 < 2 ^ 8) (t1 : x1 < 2 ^ 8) (t2 : x2 < 2 ^ 8) (t3 : x3 < 2 ^ 8) :
  bits .or .i64 (bits .or .i64 (bits .or .i64 ((x0 : Int) * 16777216) ((x1 : Int) * 65536)) ((x2 : Int) * 256)) (x3 : Int) = ((((x0 * 256 + x1) * 256 + x2) * 256 + x3 : Nat) : Int) := by
 have h1 := i64_or_nat (x0 * 16777216) (x1 * 65536) (by omega) (by omega)
 rw [nat_join 24 _ _ (by omega) (by omega)] at h1
 have h2 := i64_or_nat (x0 * 16777216 + x1 * 65536) (x2 * 256) (by omega) (by omega)
 rw [nat_join 16 _ _ (by omega) (by omega)] at h2
 have h3 := i64_or_nat (x0 * 16777216 + x1 * 65536 + x2 * 256) x3 (by omega) (by omega)
 rw [nat_join 8 _ _ (by omega) (by omega)] at h3
 have e1 : (x0 : Int) * 16777216 = ((x0 * 16777216 : Nat) : Int) := by omega
 have e2 : (x1 : Int) * 65536 = ((x1 * 65536 : Nat) : Int) := by omega
 have e3 : (x2 : Int) * 256 = ((x2 * 256 : Nat) : Int) := by omega
 rw [e1, e2, e3, h1, h2, h3]
 omega
theorem be32_vals (n : Nat) (h : n < 4294967296) : (be32 n).map u8V = [.int .u8 ((n : Int) / 16777216), .int .u8 ((n : Int) / 65536 % 256), .int .u8 ((n : Int) / 256 % 256), .int .u8 ((n : Int) % 256)] := by
 have e : ∀ k : Nat, k < 256 → u8V (UInt8.ofNat k) = .int .u8 (k : Int) := fun k hk => by
  show Value.int .u8 ((UInt8.ofNat k).toNat : Int) = _
  rw [UInt8.toNat_ofNat']
  congr 1
  omega
 simp only [be32, List.map_cons, List.map_nil]
 rw [e _ (by omega), e _ (by omega), e _ (by omega), e _ (by omega)]
 rw [show ((n / 16777216 : Nat) : Int) = (n : Int) / 16777216 by omega, show ((n / 65536 % 256 : Nat) : Int) = (n : Int) / 65536 % 256 by omega, show ((n / 256 % 256 : Nat) : Int) = (n : Int) / 256 % 256 by omega, show ((n % 256 : Nat) : Int) = (n : Int) % 256 by omega]
theorem rfour_any (n : Nat) (w : World) (h : n < 4294967296) : Calls Tryz.prog 190 #[.int .u32 (n : Int)] w fun e w' => ∃ vo, e = .returned vo ∧ w'.ownsRow w.heap.size 5 1 vo 4 ((be32 n).map u8V) ∧ Below w.heap.size w w' := by
 go_enter Tryz.func190, Tryz.ntmps190
 go_wp2_with fail
 go_returns
 refine ⟨_, rfl, ?_, box_below w _⟩
 rw [be32_vals n h]
 exact ⟨rfl, .inr ⟨w.heap.size, 4, _, rfl, Nat.le_refl _, Blk.new w 5 _, Nat.le_refl _, by unfold maxLen; decide, rfl, rfl⟩⟩
theorem rnumber_any (v : Value) (c0 c1 c2 c3 : UInt8) (w : World) (hv : BsIn w v [c0, c1, c2, c3]) : Calls Tryz.prog 220 #[v] w fun e w' => e = .returned (.int .i64 (beNat [c0, c1, c2, c3] : Nat)) ∧ Below w.heap.size w w' := by
 obtain ⟨A, cap, rfl, hle, hmax, hcell⟩ := hv
 obtain ⟨b, off, rfl, hb, hc⟩ := hcell (by simp)
 have q0 : w.cell? ⟨b, off + 0, none⟩ = some (.int .u8 (c0.toNat : Int)) := hc 0 c0 rfl
 have q1 : w.cell? ⟨b, off + 1, none⟩ = some (.int .u8 (c1.toNat : Int)) := hc 1 c1 rfl
 have q2 : w.cell? ⟨b, off + 2, none⟩ = some (.int .u8 (c2.toNat : Int)) := hc 2 c2 rfl
 have q3 : w.cell? ⟨b, off + 3, none⟩ = some (.int .u8 (c3.toNat : Int)) := hc 3 c3 rfl
 rw [Nat.add_zero] at q0
 have t0 := c0.toNat_lt
 have t1 := c1.toNat_lt
 have t2 := c2.toNat_lt
 have t3 := c3.toNat_lt
 clear hcell hc hmax
 have eB : beNat [c0, c1, c2, c3] = ((c0.toNat * 256 + c1.toNat) * 256 + c2.toNat) * 256 + c3.toNat := by simp [beNat]
 rw [eB]
 clear eB
 have hor := be4_or t0 t1 t2 t3
 generalize c0.toNat = x0 at *
 generalize c1.toNat = x1 at *
 generalize c2.toNat = x2 at *
 generalize c3.toNat = x3 at *
 go_enter Tryz.func220, Tryz.ntmps220
 go_upto_region 1 with fail
 go_quiet (fail)
 go_wp2_with fail
 go_returns
 exact ⟨by first | rfl | (rw [show ((((x0 * 256 + x1) * 256 + x2) * 256 + x3 : Nat) : Int) = (((x0 : Int) * 256 + x1) * 256 + x2) * 256 + x3 by omega]), ⟨rfl, rfl, rfl, Nat.le_refl _, fun i _ => rfl⟩⟩
end Go.Proofs.YtlfikhblmbidmaaGreatDoor
namespace Go.Proofs.YtlfikhblmbidmaaGreatDoor
open Go.RowKit Go.Maps
theorem run_append_no (ty : TypeId) (g n cap : Nat) (hn : n ≤ cap) (A : Option Addr) (c : Nat) (w : World) : (Builtin.append_ #[26, 26] ty #[.slice (some ⟨g, 0, none⟩) n cap, .slice A 0 c]).run Tryz.prog w = .ok (.slice (some ⟨g, 0, none⟩) n cap) w := by
 obtain ⟨i0, hi, hz0, hz1, hz2⟩ := info_parts info_u8
 have hnl : ¬ cap < n := by omega
 cases A <;> simp [Builtin.append_, run_underlying Tryz.underlying26, sizeOf, typeInfo, hi, Builtin.lenOf, Builtin.firstCells, storeCells, loadCells, loadCellsFrom, hnl]
theorem wpList_append_no {w : World} {ops : Array Oper} {rest : List Oper} {o : Oper} {a : Act} {Q : Exit → Act → World → Prop} (hgd : o.guard = none) (s x : Operand)
  (ho : o.op = .call { callee := .builtin .append, args := #[s, x], argTypes := #[26, 26] })
  (g n cap : Nat) (hn : n ≤ cap) (hs : a.eval s = .slice (some ⟨g, 0, none⟩) n cap) (A : Option Addr) (c : Nat) (hx : a.eval x = .slice A 0 c)
  (h : wpList Tryz.prog ops Q rest (a.put o.dst (.slice (some ⟨g, 0, none⟩) n cap)) w) : wpList Tryz.prog ops Q (o :: rest) a w := by
 refine wpList_plain hgd fun K hK => ?_
 have hrun := run_append_no o.type g n cap hn A c w
 unfold Oper.wp execOp
 simp only [ho, resolve, invoke, builtin, Sem.run_bind, Sem.run_pure, Result.andThen_ok, List.map_toArray, List.map_cons, List.map_nil, hs, hx, hrun]
 exact hK _ _ h
theorem four_len (n : Nat) : (be32 n).length = 4 := rfl
set_option maxRecDepth 100000 in
set_option maxHeartbeats 2000000 in
theorem rmake_yes (v : Value) (bs : List UInt8) (w : World) (hv : BsIn w v bs) (hl : bs.length ≤ 65536) :
  Calls Tryz.prog 136 #[v] w fun e w' => ∃ vo, e = .returned (.tuple #[vo, .int .i64 0]) ∧ BsIn w' vo (frameB bs) ∧ Below w.heap.size w w' := by
 have HV := Lib.hid hv
 obtain ⟨A, c, rfl, hle, hcm⟩ := hv.shape
 have hs := crcSum_lt bs
 have HS := Lib.hid (fun w1 (h : Below w.heap.size w w1) => rsum_any _ bs w1 (HV.out.below h))
 have HFB := Lib.hid (show frameB bs = (be32 bs.length ++ be32 (crcSum bs)) ++ bs by simp [frameB])
 generalize frameB bs = fb at *
 generalize crcSum bs = s at *
 have HF1 := Lib.hid (fun X => rfour_any bs.length X (by omega))
 have HF2 := Lib.hid (fun X => rfour_any s X hs)
 have hgt : decide ((bs.length : Int) > 65536) = false := decide_eq_false (by omega)
 have hw32 : IntKind.u32.wrap (bs.length : Int) = (bs.length : Int) := by simp [IntKind.wrap, IntKind.signed, IntKind.bits]; omega
 have L4a := Lib.hid (four_len bs.length)
 have L4b := Lib.hid (four_len s)
 generalize be32 bs.length = p1 at *
 generalize be32 s = p2 at *
 have L8 : Hid ((p1 ++ p2).length = 8) := by rw [Hid, List.length_append, L4a.out, L4b.out]
 clear hv hs
 go_enter Tryz.func136, Tryz.ntmps136
 go_upto_region 4 with (first
  | (go_at_call 190; (with_reducible refine (HF1.out _).mono ?_); rintro e w2 ⟨vo, rfl, ho, hb⟩; obtain ⟨A1, n1, c1, rfl⟩ := row_shape ho; have R2 := Lib.hid (show LRow w2 (.slice A1 n1 c1) p1 from LRow.of_row (by rw [L4a.out]; exact ho)); have O2 := Lib.hid (fun g (hg : (Value.slice A1 n1 c1).ownBlock = some g) => (row_lo ho hg)); have B2 := Lib.hid hb; clear ho hb)
  | (go_at_call 191; refine (HS.out _ B2.out).mono ?_; rintro e w3 ⟨rfl, rfl⟩)
  | (go_at_call 190; (with_reducible refine (HF2.out _).mono ?_); rintro e w4 ⟨vo, rfl, ho, hb⟩; obtain ⟨A2, n2, c2, rfl⟩ := row_shape ho; have R4 := Lib.hid (show LRow w4 (.slice A2 n2 c2) p2 from LRow.of_row (by rw [L4b.out]; exact ho)); have Q4 := Lib.hid (R2.out.fr (Fr.of_below hb : Fr S0 _ _) (fun _ _ e => e)); have B4 := Lib.hid (bchain B2.out hb); clear ho hb)
  | (at_builtin; refine wpList_append_lrow _ rfl _ _ rfl _ _ rfl Q4.out _ _ rfl R4.out.bsIn (by rw [L4b.out]; decide) (by rw [L4a.out, L4b.out]; decide) ?_; intro v5 w5 ho5 hg5 hoa5; have HO5 := Lib.hid ho5; have B5 := Lib.hid (Fr.upB B4.out (Fr.of_grown (S := fun i => w.heap.size ≤ i) hg5 (fun i e => (O2.out i e).1)) (fun i e => e)); have OA5 := Lib.hid hoa5; obtain ⟨A5, c5, hv5⟩ := ho5.shape; rw [L8.out] at hv5; subst hv5; clear ho5 hg5 hoa5))
 have V5 := Lib.hid (HV.out.below B5.out)
 have O5 : Hid (∀ g, (Value.slice A5 8 c5).ownBlock = some g → w.heap.size ≤ g) := fun g hg => by
  rcases OA5.out with e | e
  ·rw [e] at hg; exact (O2.out g hg).1
  ·rw [e] at hg; cases hg; exact B4.out.size
 by_cases h0 : bs.length = 0
 ·obtain rfl : bs = [] := List.length_eq_zero_iff.1 h0
  obtain ⟨g5, rfl⟩ : ∃ g, A5 = some ⟨g, 0, none⟩ := by
   rcases HO5.out with ⟨_, h⟩ | ⟨g, cap, cur, h, _⟩
   ·have := congrArg List.length h
    rw [List.length_append, L4a.out] at this
    simp at this
   ·simp only [Value.slice.injEq] at h
    exact ⟨g, h.1⟩
  have HF9 : Hid (fb = p1 ++ p2) := by rw [Hid, HFB.out]; simp
  have H5 := Lib.hid HO5.out.bsIn
  have hcap : 8 ≤ c5 := by
   obtain ⟨A', c', he, h1, _⟩ := HO5.out.bsIn
   rw [L8.out] at he h1
   simp only [Value.slice.injEq] at he
   omega
  clear HO5 R4 Q4 R2
  go_wp2_with (at_builtin; refine wpList_append_no rfl _ _ rfl g5 8 c5 hcap rfl A c rfl ?_)
  go_returns
  exact ⟨_, rfl, by rw [HF9.out]; exact H5.out, B5.out⟩
 ·have h01 : 0 < bs.length := by omega
  go_wp2_with (at_builtin; refine wpList_append_lrow _ rfl _ _ rfl _ _ rfl HO5.out _ _ rfl V5.out h01 (by rw [List.length_append, L4a.out, L4b.out]; omega) ?_; intro v6 w6 ho6 hg6 hoa6; have HO6 := Lib.hid ho6; have B6 := Lib.hid (Fr.upB B5.out (Fr.of_grown (S := fun i => w.heap.size ≤ i) hg6 (fun i e => O5.out i e)) (fun i e => e)); obtain ⟨A6, c6, hv6⟩ := ho6.shape; rw [← HFB.out] at hv6; subst hv6; clear ho6 hg6 hoa6)
  go_returns
  have hf6 := HO6.out.bsIn
  rw [← HFB.out] at hf6
  exact ⟨_, rfl, hf6, B6.out⟩
end Go.Proofs.YtlfikhblmbidmaaGreatDoor
namespace Go.Proofs.YtlfikhblmbidmaaGreatDoor
open Go.RowKit Go.Maps
theorem bldFr0 (w : World) : (Instr.build 227 #[]).run Tryz.prog w = .ok (frV 0 (.slice none 0 0)) w := run_build w 227 _ _ (by kernel_rfl)
theorem bldFr (k : Int) (A : Option Addr) (n c : Nat) (w : World) : (Instr.build 227 #[(0, .int .i64 k), (1, .slice A n c)]).run Tryz.prog w = .ok (frV k (.slice A n c)) w := run_build w 227 _ _ (by kernel_rfl)
abbrev fr0 : Obj := .cells #[.int .i64 0, .slice none 0 0] 227
theorem fr_none {w X : World} (b : Below w.heap.size w X) (kb : Blk X w.heap.size 227 #[.int .i64 0, .slice none 0 0]) :
  Blk ((X.setCell ⟨w.heap.size, 0, none⟩ (.int .i64 0)).setCell ⟨w.heap.size, 1, none⟩ (.slice none 0 0)) w.heap.size 227 #[.int .i64 0, .slice none 0 0] ∧
  Below w.heap.size w ((X.setCell ⟨w.heap.size, 0, none⟩ (.int .i64 0)).setCell ⟨w.heap.size, 1, none⟩ (.slice none 0 0)) :=
 ⟨(kb.set 0 (.int .i64 0)).set 1 (.slice none 0 0), Fr.upB b (((Fr.refl (S1 w.heap.size) X).setCell (p := ⟨w.heap.size, 0, none⟩) (.inl rfl) (.int .i64 0)).setCell (p := ⟨w.heap.size, 1, none⟩) (.inl rfl) (.slice none 0 0)) (fun i e => by have e : i = w.heap.size := e; omega)⟩
set_option maxRecDepth 100000 in
set_option maxHeartbeats 2000000 in
theorem rnext_short (v : Value) (bs : List UInt8) (k : Nat) (w : World) (hv : BsIn w v bs) (hl : bs.length ≤ 100000000) (hk : k ≤ bs.length) (h8 : bs.length - k < 8) :
  Calls Tryz.prog 193 #[v, .int .i64 (k : Int)] w fun e w' => ∃ c, e = .returned (.tuple #[frV 0 (.slice none 0 0), .int .i64 0, .int .i64 c]) ∧ c ≠ 0 ∧ Below w.heap.size w w' := by
 obtain ⟨A, cap, rfl, hle, hmax⟩ := hv.shape
 have hB0 := fun w => bldFr0 w
 have KB := Blk.new w 227 #[.int .i64 0, .slice none 0 0]
 have c0 := KB.cell (i := 0) (v := .int .i64 0) rfl
 have c1 := KB.cell (i := 1) (v := .slice none 0 0) rfl
 have f0 := KB.frozen 0
 have f1 := KB.frozen 1
 have B1 := Lib.hid (box_below w fr0)
 clear KB hv
 by_cases he : k = bs.length
 ·subst he
  go_enter Tryz.func193, Tryz.ntmps193
  go_wp2_with fail
  refine bodyPost_ret (v := .tuple #[frV 0 (.slice none 0 0), .int .i64 0, .int .i64 5]) (by simp [results, Tryz.results193, go_sem, c0, c1]) rfl ?_
  exact ⟨_, rfl, by decide, B1.out⟩
 ·have hd1 : decide ((k : Int) > (bs.length : Int)) = false := decide_eq_false (by omega)
  have hd2 : ((k : Int) == (bs.length : Int)) = false := by rw [beq_eq_false_iff_ne]; omega
  have hd2' : ¬ k = bs.length := he
  have hd3 : decide ((bs.length : Int) - (k : Int) < 8) = true := decide_eq_true (by omega)
  clear he
  go_enter Tryz.func193, Tryz.ntmps193
  go_wp2_with fail
  refine bodyPost_ret (v := .tuple #[frV 0 (.slice none 0 0), .int .i64 0, .int .i64 10]) (by simp [results, Tryz.results193, go_sem, c0, c1]) rfl ?_
  exact ⟨_, rfl, by decide, B1.out⟩
set_option maxRecDepth 100000 in
set_option maxHeartbeats 2000000 in
theorem rnext_big (v : Value) (bs : List UInt8) (k : Nat) (w : World) (hv : BsIn w v bs) (hl : bs.length ≤ 100000000) (hk : k + 8 ≤ bs.length) (hbig : 65536 < beNat ((bs.drop k).take 4) ∨ bs.length - k - 8 < beNat ((bs.drop k).take 4)) :
  Calls Tryz.prog 193 #[v, .int .i64 (k : Int)] w fun e w' => ∃ c, e = .returned (.tuple #[frV 0 (.slice none 0 0), .int .i64 0, .int .i64 c]) ∧ c ≠ 0 ∧ Below w.heap.size w w' := by
 have HV := Lib.hid hv
 obtain ⟨A, cap, rfl, hle, hmax, hcells⟩ := hv
 obtain ⟨b, off, rfl, hb, hc⟩ := hcells (by omega)
 have hm9 : cap ≤ 9223372036854775807 := by unfold maxLen at hmax; omega
 obtain ⟨x0, x1, x2, x3, hx⟩ : ∃ x0 x1 x2 x3, (bs.drop k).take 4 = [x0, x1, x2, x3] := by
  have hlen : ((bs.drop k).take 4).length = 4 := by simp; omega
  match h : (bs.drop k).take 4, hlen with
  | [x0, x1, x2, x3], _ => exact ⟨x0, x1, x2, x3, rfl⟩
 have HSUB := Lib.hid (fun (A : Option Addr) (c : Nat) (h1 : A = some (⟨b, off + k, none⟩ : Addr)) (h2 : 4 ≤ c) (h3 : c ≤ maxLen) => bs_sub (n := 4) (i := k) (cap := cap) hb (by omega) hc A c (.inr h1) h2 h3)
 rw [hx] at HSUB hbig
 have hn := beNat_lt [x0, x1, x2, x3] (by simp)
 have HNU := Lib.hid (fun (X : World) (hX : Below w.heap.size w X) (c : Nat) (h2 : 4 ≤ c) (h3 : c ≤ maxLen) => rnumber_any (.slice (some ⟨b, off + k, none⟩) 4 c) x0 x1 x2 x3 X ((HSUB.out _ c rfl h2 h3).below hX))
 generalize beNat [x0, x1, x2, x3] = n at *
 have hB0 := fun w => bldFr0 w
 have KB := Blk.new w 227 #[.int .i64 0, .slice none 0 0]
 have KBH := Lib.hid KB
 have BH := Lib.hid (box_below w fr0)
 have hd1 : decide ((k : Int) > (bs.length : Int)) = false := decide_eq_false (by omega)
 have hd2 : ((k : Int) == (bs.length : Int)) = false := by rw [beq_eq_false_iff_ne]; omega
 have hd2' : ¬ k = bs.length := by omega
 have hd3 : decide ((bs.length : Int) - (k : Int) < 8) = false := decide_eq_false (by omega)
 clear hc hcells KB
 go_enter Tryz.func193, Tryz.ntmps193
 go_upto_region 8 with (go_at_call 220; refine (HNU.out _ BH.out _ (by omega) (by unfold maxLen; omega)).mono ?_; rintro e w2 ⟨rfl, hb⟩; have K2 := Lib.hid (KBH.out.of_block (hb.block _ KBH.out.lt)); have B2 := Lib.hid (bchain BH.out hb); clear hb)
 have c0 := K2.out.cell (i := 0) (v := .int .i64 0) rfl
 have c1 := K2.out.cell (i := 1) (v := .slice none 0 0) rfl
 have f0 := K2.out.frozen 0
 have f1 := K2.out.frozen 1
 obtain ⟨k1, b1⟩ := fr_none B2.out K2.out
 have r0 := k1.cell (i := 0) (v := .int .i64 0) rfl
 have r1 := k1.cell (i := 1) (v := .slice none 0 0) rfl
 have B3 := Lib.hid b1
 clear k1 b1
 by_cases h6 : 65536 < n
 ·have hd4 : decide ((n : Int) > 65536) = true := decide_eq_true (by omega)
  clear hbig
  go_wp2_with fail
  refine bodyPost_ret (v := .tuple #[frV 0 (.slice none 0 0), .int .i64 0, .int .i64 10]) (by simp [results, Tryz.results193, go_sem, r0, r1]) rfl ?_
  exact ⟨_, rfl, by decide, B3.out⟩
 ·have hd4 : decide ((n : Int) > 65536) = false := decide_eq_false (by omega)
  have h7 : bs.length - k - 8 < n := hbig.resolve_left h6
  have hd5 : decide ((n : Int) > (bs.length : Int) - (k : Int) - 8) = true := decide_eq_true (by omega)
  clear hbig
  go_wp2_with fail
  refine bodyPost_ret (v := .tuple #[frV 0 (.slice none 0 0), .int .i64 0, .int .i64 10]) (by simp [results, Tryz.results193, go_sem, r0, r1]) rfl ?_
  exact ⟨_, rfl, by decide, B3.out⟩
end Go.Proofs.YtlfikhblmbidmaaGreatDoor
namespace Go.Proofs.YtlfikhblmbidmaaGreatDoor
open Go.RowKit Go.Maps
theorem four_of {bs : List UInt8} {k : Nat} (hk : k + 4 ≤ bs.length) : ∃ x0 x1 x2 x3, (bs.drop k).take 4 = [x0, x1, x2, x3] := by
 have hlen : ((bs.drop k).take 4).length = 4 := by simp; omega
 match h : (bs.drop k).take 4, hlen with
 | [x0, x1, x2, x3], _ => exact ⟨x0, x1, x2, x3, rfl⟩
theorem RowB.setB {lo : Nat} {w : World} {v y : Value} {cs : List UInt8} {q i : Nat} {T : TypeId} {cells : Array Value} (h : RowB lo w v cs) (hb : Blk w q T cells) (hT : T ≠ 5) : RowB lo (w.setCell ⟨q, i, none⟩ y) v cs :=
 h.keep (KeepT.of_fr ((Fr.refl (S1 q) w).setCell (p := ⟨q, i, none⟩) (.inl rfl) y) (fun j (hj : j = q) cs z e => by
  subst hj
  rw [show w.heap[j]? = _ from hb] at e
  simp only [Option.some.injEq, Obj.cells.injEq] at e
  exact hT e.2.1))
theorem rowB_made (lo : Nat) (w : World) (h : lo ≤ w.heap.size) : RowB lo (w.alloc (.cells #[] 5)) (.slice (some ⟨w.heap.size, 0, none⟩) 0 0) [] :=
 World.ownsRow.mono (World.ownsRow_made w #[] 0 (Nat.le_refl _) (Nat.zero_le _) (by simp)) h
def NxtPost (w : World) (k n : Nat) (cs : List UInt8) (ok : Bool) (e : Ending) (w' : World) : Prop :=
 Below w.heap.size w w' ∧ (ok = true → ∃ vo, e = .returned (.tuple #[frV k vo, .int .i64 ((k + 8 + n : Nat) : Int), .int .i64 0]) ∧ RowB w.heap.size w' vo cs) ∧ (ok = false → e = .returned (.tuple #[frV 0 (.slice none 0 0), .int .i64 0, .int .i64 13]))
set_option maxRecDepth 100000 in
set_option maxHeartbeats 4000000 in
theorem rnext_rec (v : Value) (bs : List UInt8) (k n : Nat) (w : World) (hv : BsIn w v bs) (hl : bs.length ≤ 100000000) (hk : k + 8 + n ≤ bs.length) (hn : beNat ((bs.drop k).take 4) = n) (h6 : n ≤ 65536) :
  Calls Tryz.prog 193 #[v, .int .i64 (k : Int)] w (NxtPost w k n ((bs.drop (k + 8)).take n) (decide (crcSum ((bs.drop (k + 8)).take n) = beNat ((bs.drop (k + 4)).take 4)))) := by
 obtain ⟨A, cap, rfl, hle, hmax, hcells⟩ := hv
 obtain ⟨b, off, rfl, hb, hc⟩ := hcells (by omega)
 have hm9 : cap ≤ 9223372036854775807 := by unfold maxLen at hmax; omega
 obtain ⟨x0, x1, x2, x3, hx⟩ := four_of (bs := bs) (k := k) (by omega)
 obtain ⟨y0, y1, y2, y3, hy⟩ := four_of (bs := bs) (k := k + 4) (by omega)
 have HSX := Lib.hid (fun (c : Nat) (h2 : 4 ≤ c) (h3 : c ≤ maxLen) => bs_sub (n := 4) (i := k) (cap := cap) hb (by omega) hc (some ⟨b, off + k, none⟩) c (.inr rfl) h2 h3)
 have HSY := Lib.hid (fun (c : Nat) (h2 : 4 ≤ c) (h3 : c ≤ maxLen) => bs_sub (n := 4) (i := k + 4) (cap := cap) hb (by omega) hc (some ⟨b, off + (k + 4), none⟩) c (.inr rfl) h2 h3)
 have HSC := Lib.hid (fun (A : Option Addr) (c : Nat) (hA : n = 0 ∨ A = some (⟨b, off + (k + 8), none⟩ : Addr)) (h2 : n ≤ c) (h3 : c ≤ maxLen) => bs_sub (n := n) (i := k + 8) (cap := cap) hb (by omega) hc A c hA h2 h3)
 rw [hx] at HSX hn
 rw [hy] at HSY ⊢
 have HNX := Lib.hid (fun (X : World) (hX : Below w.heap.size w X) (c : Nat) (h2 : 4 ≤ c) (h3 : c ≤ maxLen) => rnumber_any (.slice (some ⟨b, off + k, none⟩) 4 c) x0 x1 x2 x3 X ((HSX.out c h2 h3).below hX))
 have HNY := Lib.hid (fun (X : World) (hX : Below w.heap.size w X) (c : Nat) (h2 : 4 ≤ c) (h3 : c ≤ maxLen) => rnumber_any (.slice (some ⟨b, off + (k + 4), none⟩) 4 c) y0 y1 y2 y3 X ((HSY.out c h2 h3).below hX))
 rw [hn] at HNX
 have hs := beNat_lt [y0, y1, y2, y3] (by simp)
 generalize beNat [y0, y1, y2, y3] = s at *
 have hcl : ((bs.drop (k + 8)).take n).length = n := by simp; omega
 generalize (bs.drop (k + 8)).take n = cs at *
 have HCL := Lib.hid hcl
 have hS := crcSum_lt cs
 have HSM := Lib.hid (fun (X : World) (u : Value) (h : BsIn X u cs) => rsum_any u cs X h)
 generalize crcSum cs = S at *
 have hB0 := fun w => bldFr0 w
 have hB1 := fun (k : Int) (A : Option Addr) (n c : Nat) w => bldFr k A n c w
 have KBH := Lib.hid (Blk.new w 227 #[.int .i64 0, .slice none 0 0])
 have BH := Lib.hid (box_below w fr0)
 have hd1 : decide ((k : Int) > (bs.length : Int)) = false := decide_eq_false (by omega)
 have hd2 : ((k : Int) == (bs.length : Int)) = false := by rw [beq_eq_false_iff_ne]; omega
 have hd2' : ¬ k = bs.length := by omega
 have hd3 : decide ((bs.length : Int) - (k : Int) < 8) = false := decide_eq_false (by omega)
 have hd4 : decide ((n : Int) > 65536) = false := decide_eq_false (by omega)
 have hd5 : decide ((n : Int) > (bs.length : Int) - (k : Int) - 8) = false := decide_eq_false (by omega)
 clear hc hcells hcl
 go_enter Tryz.func193, Tryz.ntmps193
 go_upto_region 10 with (go_at_call 220; refine (HNX.out _ BH.out _ (by omega) (by unfold maxLen; omega)).mono ?_; rintro e w2 ⟨rfl, hb⟩; have K2 := Lib.hid (KBH.out.of_block (hb.block _ KBH.out.lt)); have B2 := Lib.hid (bchain BH.out hb); clear hb)
 have BA := Lib.hid (bchain B2.out (box_below w2 (.cells #[] 5)))
 have KA := Lib.hid (K2.out.of_block ((box_below w2 (.cells #[] 5)).block _ K2.out.lt))
 have hkl : w.heap.size < w2.heap.size := K2.out.lt
 have hwS : IntKind.i64.wrap (S : Int) = (S : Int) := by rw [IntKind.wrap_i64]; omega
 by_cases hsn : S = s
 ·rw [decide_eq_true hsn]
  subst hsn
  by_cases h0 : n = 0
  ·subst h0
   have hcs0 : cs = [] := List.length_eq_zero_iff.1 HCL.out
   go_wp2_with (first
   | (at_builtin; refine wpList_append_no rfl _ _ rfl _ 0 0 (Nat.le_refl _) rfl _ _ rfl ?_; have V3 := Lib.hid (show RowB w.heap.size (w2.alloc (.cells #[] 5)) (.slice (some ⟨w2.heap.size, 0, none⟩) 0 0) cs by rw [hcs0]; exact rowB_made _ w2 B2.out.size); have K3 := Lib.hid KA.out; have B3 := Lib.hid BA.out)
   | (go_at_call 220; refine (HNY.out _ B3.out _ (by omega) (by unfold maxLen; omega)).mono ?_; rintro e w4 ⟨rfl, hb⟩; have K4 := Lib.hid (K3.out.of_block (hb.block _ K3.out.lt)); have B4 := Lib.hid (bchain B3.out hb); have V4 := Lib.hid (V3.out.keep (KeepT.below hb)); have c0 := K4.out.cell (i := 0) (v := .int .i64 0) rfl; have c1 := K4.out.cell (i := 1) (v := .slice none 0 0) rfl; have f0 := K4.out.frozen 0; have f1 := K4.out.frozen 1; clear hb)
   | (go_at_call 191; refine (HSM.out _ _ V4.out.bsIn).mono ?_; rintro e w5 ⟨rfl, rfl⟩))
   all_goals
    have KF := (K4.out.set 0 (.int .i64 (k : Int))).set 1 (.slice (some ⟨w2.heap.size, 0, none⟩) 0 0)
    have r0 := KF.cell (i := 0) (v := .int .i64 (k : Int)) rfl
    have r1 := KF.cell (i := 1) (v := .slice (some ⟨w2.heap.size, 0, none⟩) 0 0) rfl
    have V5 := (V4.out.setB (i := 0) (y := .int .i64 (k : Int)) K4.out (by decide)).setB (i := 1) (y := (.slice (some ⟨w2.heap.size, 0, none⟩) 0 0)) (K4.out.set 0 (.int .i64 (k : Int))) (by decide)
    have B5 := Fr.upB B4.out (((Fr.refl (S1 w.heap.size) _).setCell (p := ⟨w.heap.size, 0, none⟩) (.inl rfl) (.int .i64 (k : Int))).setCell (p := ⟨w.heap.size, 1, none⟩) (.inl rfl) (.slice (some ⟨w2.heap.size, 0, none⟩) 0 0)) (fun i e => by have e : i = w.heap.size := e; omega)
    refine bodyPost_ret (v := .tuple #[frV k (.slice (some ⟨w2.heap.size, 0, none⟩) 0 0), .int .i64 ((k + 8 + 0 : Nat) : Int), .int .i64 0]) (by simp [results, Tryz.results193, go_sem, r0, r1]) rfl ?_
    rw [hcs0] at V5
    exact ⟨B5, fun _ => ⟨_, rfl, V5⟩, fun e => (by simp at e)⟩
  ·have h01 : 0 < cs.length := by rw [HCL.out]; omega
   have hck : ¬ cap = k + 8 := by omega
   go_wp2_with (first
   | (at_builtin; refine wpList_append_bs _ rfl _ _ rfl w2.heap.size _ 0 [] rfl (World.ownsRow_made w2 #[] 0 (Nat.le_refl _) (Nat.zero_le _) (by simp)) (.slice (some ⟨b, off + (k + 8), none⟩) (k + 8 + n - (k + 8)) (cap - (k + 8))) cs rfl (by rw [show k + 8 + n - (k + 8) = n by omega]; exact (HSC.out _ _ (Or.inr rfl) (by omega) (by unfold maxLen; omega)).below BA.out) (by rw [HCL.out]; omega) (by simp) ?_; intro v3 w3 ho3 hg3 hoa3; have V3 := Lib.hid (show RowB w.heap.size w3 v3 cs from World.ownsRow.mono (show w3.ownsRow w2.heap.size 5 1 v3 cs.length (cs.map u8V) by simpa using ho3) B2.out.size); have f3 : Fr (S1 w2.heap.size) (w2.alloc (.cells #[] 5)) w3 := Fr.of_grown hg3 (fun i e => by cases e; rfl); have B3 := Lib.hid (Fr.upB BA.out f3 (fun i e => by have e : i = w2.heap.size := e; omega)); have K3 := Lib.hid (KA.out.fr f3 (fun e => by have e : w.heap.size = w2.heap.size := e; omega)); obtain ⟨A3, c3, hv3⟩ := row_len ho3; rw [Nat.zero_add, HCL.out] at hv3; subst hv3; clear ho3 hg3 hoa3 f3)
   | (go_at_call 220; refine (HNY.out _ B3.out _ (by omega) (by unfold maxLen; omega)).mono ?_; rintro e w4 ⟨rfl, hb⟩; have K4 := Lib.hid (K3.out.of_block (hb.block _ K3.out.lt)); have B4 := Lib.hid (bchain B3.out hb); have V4 := Lib.hid (V3.out.keep (KeepT.below hb)); have c0 := K4.out.cell (i := 0) (v := .int .i64 0) rfl; have c1 := K4.out.cell (i := 1) (v := .slice none 0 0) rfl; have f0 := K4.out.frozen 0; have f1 := K4.out.frozen 1; clear hb)
   | (go_at_call 191; refine (HSM.out _ _ V4.out.bsIn).mono ?_; rintro e w5 ⟨rfl, rfl⟩))
   all_goals
    have KF := (K4.out.set 0 (.int .i64 (k : Int))).set 1 (.slice A3 n c3)
    have r0 := KF.cell (i := 0) (v := .int .i64 (k : Int)) rfl
    have r1 := KF.cell (i := 1) (v := .slice A3 n c3) rfl
    have V5 := (V4.out.setB (i := 0) (y := .int .i64 (k : Int)) K4.out (by decide)).setB (i := 1) (y := (.slice A3 n c3)) (K4.out.set 0 (.int .i64 (k : Int))) (by decide)
    have B5 := Fr.upB B4.out (((Fr.refl (S1 w.heap.size) _).setCell (p := ⟨w.heap.size, 0, none⟩) (.inl rfl) (.int .i64 (k : Int))).setCell (p := ⟨w.heap.size, 1, none⟩) (.inl rfl) (.slice A3 n c3)) (fun i e => by have e : i = w.heap.size := e; omega)
    refine bodyPost_ret (v := .tuple #[frV k (.slice A3 n c3), .int .i64 ((k + 8 + n : Nat) : Int), .int .i64 0]) (by simp [results, Tryz.results193, go_sem, r0, r1]) rfl ?_
    exact ⟨B5, fun _ => ⟨_, rfl, V5⟩, fun e => (by simp at e)⟩
 ·rw [decide_eq_false hsn]
  have hsn' : ((s : Int) == (S : Int)) = false := by rw [beq_eq_false_iff_ne]; omega
  have hsn2 : ¬ s = S := fun e => hsn e.symm
  by_cases h0 : n = 0
  ·subst h0
   have hcs0 : cs = [] := List.length_eq_zero_iff.1 HCL.out
   go_wp2_with (first
   | (at_builtin; refine wpList_append_no rfl _ _ rfl _ 0 0 (Nat.le_refl _) rfl _ _ rfl ?_; have V3 := Lib.hid (show RowB w.heap.size (w2.alloc (.cells #[] 5)) (.slice (some ⟨w2.heap.size, 0, none⟩) 0 0) cs by rw [hcs0]; exact rowB_made _ w2 B2.out.size); have K3 := Lib.hid KA.out; have B3 := Lib.hid BA.out)
   | (go_at_call 220; refine (HNY.out _ B3.out _ (by omega) (by unfold maxLen; omega)).mono ?_; rintro e w4 ⟨rfl, hb⟩; have K4 := Lib.hid (K3.out.of_block (hb.block _ K3.out.lt)); have B4 := Lib.hid (bchain B3.out hb); have V4 := Lib.hid (V3.out.keep (KeepT.below hb)); have c0 := K4.out.cell (i := 0) (v := .int .i64 0) rfl; have c1 := K4.out.cell (i := 1) (v := .slice none 0 0) rfl; have f0 := K4.out.frozen 0; have f1 := K4.out.frozen 1; clear hb)
   | (go_at_call 191; refine (HSM.out _ _ V4.out.bsIn).mono ?_; rintro e w5 ⟨rfl, rfl⟩))
   all_goals
    obtain ⟨k1, b1⟩ := fr_none B4.out K4.out
    have r0 := k1.cell (i := 0) (v := .int .i64 0) rfl
    have r1 := k1.cell (i := 1) (v := .slice none 0 0) rfl
    refine bodyPost_ret (v := .tuple #[frV 0 (.slice none 0 0), .int .i64 0, .int .i64 13]) (by simp [results, Tryz.results193, go_sem, r0, r1]) rfl ?_
    exact ⟨b1, fun e => (by first | (cases e; done) | exact absurd (of_decide_eq_true e) hsn), fun _ => rfl⟩
  ·have h01 : 0 < cs.length := by rw [HCL.out]; omega
   have hck : ¬ cap = k + 8 := by omega
   go_wp2_with (first
   | (at_builtin; refine wpList_append_bs _ rfl _ _ rfl w2.heap.size _ 0 [] rfl (World.ownsRow_made w2 #[] 0 (Nat.le_refl _) (Nat.zero_le _) (by simp)) (.slice (some ⟨b, off + (k + 8), none⟩) (k + 8 + n - (k + 8)) (cap - (k + 8))) cs rfl (by rw [show k + 8 + n - (k + 8) = n by omega]; exact (HSC.out _ _ (Or.inr rfl) (by omega) (by unfold maxLen; omega)).below BA.out) (by rw [HCL.out]; omega) (by simp) ?_; intro v3 w3 ho3 hg3 hoa3; have V3 := Lib.hid (show RowB w.heap.size w3 v3 cs from World.ownsRow.mono (show w3.ownsRow w2.heap.size 5 1 v3 cs.length (cs.map u8V) by simpa using ho3) B2.out.size); have f3 : Fr (S1 w2.heap.size) (w2.alloc (.cells #[] 5)) w3 := Fr.of_grown hg3 (fun i e => by cases e; rfl); have B3 := Lib.hid (Fr.upB BA.out f3 (fun i e => by have e : i = w2.heap.size := e; omega)); have K3 := Lib.hid (KA.out.fr f3 (fun e => by have e : w.heap.size = w2.heap.size := e; omega)); obtain ⟨A3, c3, hv3⟩ := row_len ho3; rw [Nat.zero_add, HCL.out] at hv3; subst hv3; clear ho3 hg3 hoa3 f3)
   | (go_at_call 220; refine (HNY.out _ B3.out _ (by omega) (by unfold maxLen; omega)).mono ?_; rintro e w4 ⟨rfl, hb⟩; have K4 := Lib.hid (K3.out.of_block (hb.block _ K3.out.lt)); have B4 := Lib.hid (bchain B3.out hb); have V4 := Lib.hid (V3.out.keep (KeepT.below hb)); have c0 := K4.out.cell (i := 0) (v := .int .i64 0) rfl; have c1 := K4.out.cell (i := 1) (v := .slice none 0 0) rfl; have f0 := K4.out.frozen 0; have f1 := K4.out.frozen 1; clear hb)
   | (go_at_call 191; refine (HSM.out _ _ V4.out.bsIn).mono ?_; rintro e w5 ⟨rfl, rfl⟩))
   all_goals
    obtain ⟨k1, b1⟩ := fr_none B4.out K4.out
    have r0 := k1.cell (i := 0) (v := .int .i64 0) rfl
    have r1 := k1.cell (i := 1) (v := .slice none 0 0) rfl
    refine bodyPost_ret (v := .tuple #[frV 0 (.slice none 0 0), .int .i64 0, .int .i64 13]) (by simp [results, Tryz.results193, go_sem, r0, r1]) rfl ?_
    exact ⟨b1, fun e => (by first | (cases e; done) | exact absurd (of_decide_eq_true e) hsn), fun _ => rfl⟩
end Go.Proofs.YtlfikhblmbidmaaGreatDoor
namespace Go.Proofs.YtlfikhblmbidmaaGreatDoor
open Go.RowKit Go.Maps
theorem rnext_none (v : Value) (bs : List UInt8) (k : Nat) (w : World) (hv : BsIn w v bs) (hl : bs.length ≤ 100000000) (hk : k ≤ bs.length) (h : nextF (bs.drop k) = none) :
  Calls Tryz.prog 193 #[v, .int .i64 (k : Int)] w fun e w' => ∃ c, e = .returned (.tuple #[frV 0 (.slice none 0 0), .int .i64 0, .int .i64 c]) ∧ c ≠ 0 ∧ Below w.heap.size w w' := by
 unfold nextF at h
 split at h
 ·rename_i h8
  exact rnext_short v bs k w hv hl hk (by simpa using h8)
 ·rename_i h8
  have h8 : 8 ≤ bs.length - k := by simpa using h8
  split at h
  ·rename_i hb
   exact rnext_big v bs k w hv hl (by omega) (by rcases hb with hb | hb; exact .inl hb; right; simp at hb; omega)
  ·rename_i hb
   split at h
   ·cases h
   ·rename_i hc
    have hb2 : beNat ((bs.drop k).take 4) ≤ bs.length - k - 8 := by
     by_cases hq : bs.length - k - 8 < beNat ((bs.drop k).take 4)
     ·exact absurd (Or.inr (by simpa using hq)) hb
     ·omega
    rw [List.drop_drop, List.drop_drop] at hc
    refine (rnext_rec v bs k _ w hv hl (by omega) rfl (by omega)).mono fun e w' hp => ?_
    exact ⟨13, hp.2.2 (decide_eq_false hc), by decide, hp.1⟩
theorem rnext_some (v : Value) (bs : List UInt8) (k : Nat) (cs r' : List UInt8) (w : World) (hv : BsIn w v bs) (hl : bs.length ≤ 100000000) (hk : k ≤ bs.length) (h : nextF (bs.drop k) = some (cs, r')) :
  Calls Tryz.prog 193 #[v, .int .i64 (k : Int)] w fun e w' => ∃ vo, e = .returned (.tuple #[frV k vo, .int .i64 ((k + 8 + cs.length : Nat) : Int), .int .i64 0]) ∧ RowB w.heap.size w' vo cs ∧ Below w.heap.size w w' := by
 obtain ⟨h1, h2, h3, h4, h5, h6⟩ := nextF_some h
 have hlen : (bs.drop k).length = bs.length - k := by simp
 have hs : crcSum ((bs.drop (k + 8)).take cs.length) = beNat ((bs.drop (k + 4)).take 4) := by
  have h7 := h
  unfold nextF at h7
  rw [if_neg (by omega)] at h7
  split at h7
  ·cases h7
  ·split at h7
   ·rename_i hq
    rw [List.drop_drop, List.drop_drop] at hq
    rw [h2]
    exact hq
   ·cases h7
 have hcs : (bs.drop (k + 8)).take cs.length = cs := by
  rw [← List.drop_drop]
  exact h6.symm
 refine (rnext_rec v bs k cs.length w hv hl (by omega) h2.symm h3).mono fun e w' hp => ?_
 obtain ⟨vo, he, hb⟩ := hp.2.1 (decide_eq_true hs)
 rw [hcs] at hb
 exact ⟨vo, he, hb, hp.1⟩
end Go.Proofs.YtlfikhblmbidmaaGreatDoor
namespace Go.Proofs.YtlfikhblmbidmaaGreatDoor
open Go.RowKit Go.Maps
theorem info_rfrm : (Tryz.prog.info? 227).map (fun i => (i.zero, i.size, i.bytes)) = some (some (frV 0 (.slice none 0 0)), 2, 32) := by kernel_rfl
structure FrmRow (W : World) (lo : Nat) (v : Value) (xs : List FrmX) : Prop where
 row : W.ownsRow lo 227 2 v xs.length (cellsX xs)
 rows : ∀ x ∈ xs, RowB lo W x.v x.c
theorem FrmRow.nil (W : World) (lo : Nat) : FrmRow W lo (.slice none 0 0) [] := ⟨World.ownsRow_nil _ _ _ _, fun x hx => by cases hx⟩
theorem FrmRow.below {W W' : World} {lo : Nat} {v : Value} {xs : List FrmX} (h : FrmRow W lo v xs) (k : Below W.heap.size W W') : FrmRow W' lo v xs :=
 ⟨KeepT.row (KeepT.below k) h.row, fun x hx => (h.rows x hx).keep (KeepT.below k)⟩
theorem FrmRow.lower {W : World} {lo lo' : Nat} {v : Value} {xs : List FrmX} (h : FrmRow W lo v xs) (k : lo' ≤ lo) : FrmRow W lo' v xs :=
 ⟨World.ownsRow.mono h.row k, fun x hx => (h.rows x hx).lower k⟩
set_option maxRecDepth 100000 in
set_option maxHeartbeats 4000000 in
theorem rall_any (v : Value) (bs : List UInt8) (w : World) (hv : BsIn w v bs) (hl : bs.length ≤ 100000000) :
  Calls Tryz.prog 138 #[v] w fun e w' => ∃ vo xs, e = .returned (.tuple #[vo, .int .i64 (((allF bs).2 : Nat) : Int)]) ∧ xs.map (·.c) = (allF bs).1 ∧ FrmRow w' w.heap.size vo xs ∧ Below w.heap.size w w' := by
 obtain ⟨i0, hi, hz0, hz1, hz2⟩ := info_parts info_rfrm
 have HI := Lib.hid hi
 have HZ0 := Lib.hid hz0
 have HZ1 := Lib.hid hz1
 have HZ2 := Lib.hid hz2
 have hB1 := fun (k : Int) (A : Option Addr) (n c : Nat) w => bldFr k A n c w
 have HV := Lib.hid hv
 obtain ⟨A, cap, rfl, hle, hcm⟩ := hv.shape
 clear hi hz0 hz1 hz2 hv
 go_enter Tryz.func138, Tryz.ntmps138
 go_wp2_with fail
 go_loopw [4, 5] (fun v4 c wr => ∃ (xs : List FrmX) (k : Nat), k ≤ bs.length ∧ xs.length ≤ k ∧ c = .int .i64 (k : Int) ∧ FrmRow wr w.heap.size v4 xs ∧ Below w.heap.size w wr ∧ (allF bs).1 = xs.map (·.c) ++ (allF (bs.drop k)).1 ∧ (allF bs).2 = k + (allF (bs.drop k)).2) (fun _ c _ => bs.length - (intOf c).toNat)
 case atStart => exact ⟨[], 0, Nat.zero_le _, Nat.le_refl _, rfl, FrmRow.nil _ _, Below.refl _ _, by simp, by simp⟩
 case round =>
  obtain ⟨xs, k, hk, hxk, rfl, hrow, hB, h1, h2⟩ := hrel
  have HROW := Lib.hid hrow
  have HB := Lib.hid hB
  have H1 := Lib.hid h1
  have H2 := Lib.hid h2
  obtain ⟨A4, c4, rfl⟩ := row_len hrow.row
  clear hrow h1 h2
  cases hn : nextF (bs.drop k) with
  | none =>
   have HN := Lib.hid (rnext_none _ bs k wr (HV.out.below hB) hl hk hn)
   have HA : Hid (allF (bs.drop k) = ([], 0)) := allF_none hn
   clear hn hB
   go_wp2_with (go_at_call 193; refine HN.out.mono ?_; rintro e w2 ⟨c, rfl, hc, hb⟩; have hc' : (c == 0) = false := (by simpa using hc); have B2 := Lib.hid (bchain HB.out hb); have R2 := Lib.hid (HROW.out.below hb); clear hb)
   go_returns
   have e2 : (allF bs).2 = k := by rw [H2.out, HA.out]; rfl
   rw [e2]
   refine ⟨_, xs, rfl, ?_, R2.out.below (box_below _ _), bchain B2.out (box_below _ _)⟩
   rw [H1.out, HA.out]
   simp
  | some p =>
   obtain ⟨cs, r'⟩ := p
   have HN := Lib.hid (rnext_some _ bs k cs r' wr (HV.out.below hB) hl hk hn)
   obtain ⟨e1, e2, e3, e4, e5, e6⟩ := nextF_some hn
   have HA := Lib.hid (allF_some hn)
   have hlen : (bs.drop k).length = bs.length - k := by simp
   have hk2 : k + 8 + cs.length ≤ bs.length := by omega
   have hr' : Hid (r' = bs.drop (k + 8 + cs.length)) := by
    rw [Hid, e5, List.drop_drop]; congr 1; omega
   clear hn hB e1 e2 e3 e4 e5 e6 hlen
   go_wp2_with (first
    | (go_at_call 193; refine HN.out.mono ?_; rintro e w2 ⟨vo, rfl, hr, hb⟩; obtain ⟨a9, c9, rfl⟩ := row_len hr; have B2 := Lib.hid (bchain HB.out hb); have R2 := Lib.hid (HROW.out.below hb); have RR := Lib.hid hr; have HS2 := Lib.hid hb.size; clear hr hb)
    | (at_builtin; go_loud (refine wpList_append_own _ rfl _ _ 177 rfl w.heap.size 227 i0 (frV 0 (.slice none 0 0)) 2 32 Tryz.underlying177 HI.out HZ0.out HZ1.out HZ2.out rfl (by decide) _ _ _ rfl (World.ownsRow.alloc (World.ownsRow.alloc R2.out.row _) _) ⟨w2.heap.size + 1, 0, none⟩ 1 1 [.int .i64 (k : Int), .slice a9 cs.length c9] rfl rfl (fun j u hu => by have := cell_two_new (w2.alloc (.cells #[.int .i64 (k : Int), .slice a9 cs.length c9] 227)) (.int .i64 (k : Int)) (.slice a9 cs.length c9) 227 j u hu; rwa [World.size_alloc] at this) (by simp [Value.oneCell']) (by unfold maxLen; omega) (by omega) (by have := B2.out.size; simp; omega) ?_); intro v' w4 hown hgrow _; obtain ⟨g', cap', rfl⟩ := ownsRow_succ hown; have HOWN := Lib.hid hown; have HGR := Lib.hid hgrow; clear hown hgrow))
   have hfr : Fr (fun i => (Value.slice A4 xs.length c4).ownBlock = some i) w2 w4 := (((Fr.refl _ w2).alloc _).alloc _).trans' (Fr.of_grown (S := fun i => (Value.slice A4 xs.length c4).ownBlock = some i) HGR.out (fun i e => e)) (fun i _ e => e)
   have hk8 : KeepT 5 w2 w4 := KeepT.of_fr hfr (row_type R2.out.row (by decide))
   have hB4 : Below w.heap.size w w4 := B2.out.trans (hfr.below B2.out.size (fun i e => (R2.out.row.lt i e).1))
   have hnew : FrmRow w4 w.heap.size (.slice (some ⟨g', 0, none⟩) (xs.length + 1) cap') (xs ++ [⟨k + 8 + cs.length, k, .slice a9 cs.length c9, cs⟩]) := by
    refine ⟨?_, fun x hx => ?_⟩
    ·rw [cellsX_snoc, List.length_append]
     exact HOWN.out
    ·rcases List.mem_append.1 hx with hx | hx
     ·exact (R2.out.rows x hx).keep hk8
     ·rw [List.mem_singleton.1 hx]
      exact RowB.keep (RowB.lower RR.out HB.out.size) hk8
   have HNEW := Lib.hid hnew
   clear hnew hk8 hfr
   go_wp2_with fail
   go_roundw
   case rel =>
    refine ⟨_, k + 8 + cs.length, hk2, ?_, rfl, HNEW.out, hB4, ?_, ?_⟩
    ·rw [List.length_append]; simp; omega
    ·rw [H1.out, HA.out, ← hr'.out]; simp
    ·rw [H2.out, HA.out, ← hr'.out]; show k + (8 + cs.length + (allF r').2) = _; omega
   case measure => simp [intOf]; omega
  skip
end Go.Proofs.YtlfikhblmbidmaaGreatDoor
namespace Go.Proofs.YtlfikhblmbidmaaGreatDoor
open Go.RowKit Go.Maps
structure RDk (w : World) (p : Nat) (v sv : Value) (s : DSt) : Prop where
 d : Blk w p 147 #[.bool true, v, .int .i64 ((s.safe : Nat) : Int), sv, .bool s.has]
 row : LRow w v s.b
 srow : LRow w sv s.st
def rdF (p : Nat) (v sv : Value) (i : Nat) : Prop := i = p ∨ v.ownBlock = some i ∨ sv.ownBlock = some i
namespace RDk
variable {w w' : World} {p : Nat} {v sv : Value} {s : DSt}
theorem fr {S : Nat → Prop} (h : RDk w p v sv s) (k : Fr S w w') (hS : ∀ i, rdF p v sv i → ¬ S i) : RDk w' p v sv s :=
 ⟨h.d.fr k (hS p (.inl rfl)), h.row.fr k (fun i e => hS i (.inr (.inl e))), h.srow.fr k (fun i e => hS i (.inr (.inr e)))⟩
theorem below (h : RDk w p v sv s) (k : Below w.heap.size w w') : RDk w' p v sv s := h.fr (Fr.of_below (S := S0) k) (fun _ _ e => e)
theorem lt (h : RDk w p v sv s) {i : Nat} (hi : rdF p v sv i) : i < w.heap.size := by
 rcases hi with rfl | e | e
 ·exact h.d.lt
 ·exact h.row.lt e
 ·exact h.srow.lt e
theorem neRow (h : RDk w p v sv s) {i : Nat} (e : v.ownBlock = some i ∨ sv.ownBlock = some i) : i ≠ p := by
 have : ∃ cur, w.heap[i]? = some (.cells cur 5 (0, 0)) := by
  rcases e with e | e
  ·exact h.row.type e
  ·exact h.srow.type e
 obtain ⟨cur, hc⟩ := this
 rintro rfl
 have := (show w.heap[i]? = _ from h.d).symm.trans hc
 simp at this
end RDk
structure RDStep (w : World) (p : Nat) (v sv : Value) (w' : World) (v' sv' : Value) (s' : DSt) : Prop where
 fr : Fr (S1 p) w w'
 own : ∀ i, rdF p v' sv' i → rdF p v sv i ∨ w.heap.size ≤ i
 at_ : RDk w' p v' sv' s'
section
variable {w : World} {p : Nat} {v sv : Value} {s : DSt}
theorem RDStep.refl (h : RDk w p v sv s) : RDStep w p v sv w v sv s := ⟨Fr.refl _ _, fun i e => .inl e, h⟩
theorem RDStep.trans {w' w'' : World} {v' sv' v'' sv'' : Value} {s' s'' : DSt} (h : RDStep w p v sv w' v' sv' s') (k : RDStep w' p v' sv' w'' v'' sv'' s'') : RDStep w p v sv w'' v'' sv'' s'' := by
 refine ⟨h.fr.trans k.fr, fun i e => ?_, k.at_⟩
 rcases k.own i e with e | e
 ·exact h.own i e
 ·exact .inr (Nat.le_trans h.fr.size e)
theorem RDStep.below {w' : World} (h : RDk w p v sv s) (k : Below w.heap.size w w') : RDStep w p v sv w' v sv s := ⟨Fr.of_below k, fun i e => .inl e, h.below k⟩
theorem rdnew_any (w : World) : Calls Tryz.prog 26 #[] w fun e w' => ∃ p, e = .returned (.pointer (some ⟨p, 0, none⟩)) ∧ RDk w' p (.slice none 0 0) (.slice none 0 0) newD ∧ w.heap.size ≤ p ∧ Below w.heap.size w w' := by
 go_enter Tryz.func26, Tryz.ntmps26
 go_wp2_with fail
 go_returns
 exact ⟨w.heap.size, rfl, ⟨Blk.new _ _ _, LRow.nil _, LRow.nil _⟩, Nat.le_refl _, box_below _ _⟩
theorem rdvalid (p : Nat) (w : World) (h : w.cell? ⟨p, 0, none⟩ = some (.bool true)) :
  Calls Tryz.prog 97 #[.pointer (some ⟨p, 0, none⟩)] w fun e w' => e = .returned (.bool true) ∧ w = w' := by
 go_enter Tryz.func97, Tryz.ntmps97
 go_wp2
 go_returns
 exact ⟨rfl, rfl⟩
theorem rdlen_any (h : RDk w p v sv s) : Calls Tryz.prog 34 #[.pointer (some ⟨p, 0, none⟩)] w fun e w' => e = .returned (.int .i64 ((s.b.length : Nat) : Int)) ∧ w = w' := by
 have c0 := h.d.cell (i := 0) (v := .bool true) rfl
 have c1 := h.d.cell (i := 1) rfl
 obtain ⟨A, c, rfl⟩ := h.row.shape
 clear h
 go_enter Tryz.func34, Tryz.ntmps34
 go_wp2_with (go_at_call 97; refine (rdvalid p _ c0).mono ?_; rintro e w' ⟨rfl, rfl⟩)
 go_returns
 exact ⟨rfl, rfl⟩
theorem rdsafe_any (h : RDk w p v sv s) : Calls Tryz.prog 31 #[.pointer (some ⟨p, 0, none⟩)] w fun e w' => e = .returned (.int .i64 ((s.safe : Nat) : Int)) ∧ w = w' := by
 have c0 := h.d.cell (i := 0) (v := .bool true) rfl
 have c2 := h.d.cell (i := 2) rfl
 clear h
 go_enter Tryz.func31, Tryz.ntmps31
 go_wp2_with (go_at_call 97; refine (rdvalid p _ c0).mono ?_; rintro e w' ⟨rfl, rfl⟩)
 go_returns
 exact ⟨rfl, rfl⟩
theorem rdsync_any (h : RDk w p v sv s) : Calls Tryz.prog 98 #[.pointer (some ⟨p, 0, none⟩)] w fun e w' => e = .returned (.tuple #[]) ∧ RDStep w p v sv w' v sv { s with safe := s.b.length } := by
 have H := Lib.hid h
 have c0 := h.d.cell (i := 0) (v := .bool true) rfl
 have c1 := h.d.cell (i := 1) rfl
 have c2 := h.d.cell (i := 2) rfl
 have f2 := h.d.frozen 2
 obtain ⟨A, c, rfl⟩ := h.row.shape
 clear h
 go_enter Tryz.func98, Tryz.ntmps98
 go_wp2_with (go_at_call 97; refine (rdvalid p _ c0).mono ?_; rintro e w' ⟨rfl, rfl⟩)
 go_returns
 have hfr := fr_set w p 2 (.int .i64 ((s.b.length : Nat) : Int))
 exact ⟨rfl, hfr, fun i e => .inl e, ⟨H.out.d.set 2 _, H.out.row.fr hfr (fun i e => H.out.neRow (.inl e)), H.out.srow.fr hfr (fun i e => H.out.neRow (.inr e))⟩⟩
set_option maxHeartbeats 1000000 in
theorem rdsave_yes (u : Value) (bs : List UInt8) (h : RDk w p v sv s) (hu : BsIn w u bs) (hl : bs.length ≤ 65536) :
  Calls Tryz.prog 28 #[.pointer (some ⟨p, 0, none⟩), u] w fun e w' => e = .returned (.int .i64 0) ∧ ∃ sv', RDStep w p v sv w' (.slice none 0 0) sv' ⟨[], 0, bs, true⟩ := by
 have H := Lib.hid h
 have HU := Lib.hid hu
 have c0 := h.d.cell (i := 0) (v := .bool true) rfl
 obtain ⟨A, c, rfl, hle, hcm⟩ := hu.shape
 have hd : decide ((bs.length : Int) > 65536) = false := decide_eq_false (by omega)
 have B1 := Lib.hid (box_below w (.cells #[] 5))
 clear h hu
 go_enter Tryz.func28, Tryz.ntmps28
 go_wp2_with (first
  | (go_at_call 97; refine (rdvalid p _ c0).mono ?_; rintro e w' ⟨rfl, rfl⟩)
  | (at_builtin; refine wpList_append_bs _ rfl _ _ rfl w.heap.size _ 0 [] rfl (World.ownsRow_made w #[] 0 (Nat.le_refl _) (Nat.zero_le _) (by simp)) _ bs rfl (HU.out.below B1.out) (by omega) (by simp) ?_; intro v3 w3 ho3 hg3 hoa3; have R3 := Lib.hid (show RowB w.heap.size w3 v3 bs by unfold RowB; simpa using ho3); have f3 : Fr (S1 w.heap.size) (w.alloc (.cells #[] 5)) w3 := Fr.of_grown hg3 (fun i e => by cases e; rfl); have B3 := Lib.hid (Fr.upB B1.out f3 (fun i e => by have e : i = w.heap.size := e; omega)); obtain ⟨A3, c3, hv3⟩ := row_len ho3; rw [Nat.zero_add] at hv3; subst hv3; have K3 := Lib.hid (H.out.d.of_block (B3.out.block _ H.out.d.lt)); have q0 := K3.out.cell (i := 0) (v := .bool true) rfl; have q1 := K3.out.cell (i := 1) rfl; have q2 := K3.out.cell (i := 2) rfl; have q3 := K3.out.cell (i := 3) rfl; have q4 := K3.out.cell (i := 4) rfl; have g1 := K3.out.frozen 1; have g2 := K3.out.frozen 2; have g3 := K3.out.frozen 3; have g4 := K3.out.frozen 4; clear ho3 hg3 hoa3 f3))
 go_returns
 have fs : Fr (S1 p) w3 ((((w3.setCell ⟨p, 3, none⟩ (.slice A3 bs.length c3)).setCell ⟨p, 4, none⟩ (.bool true)).setCell ⟨p, 1, none⟩ (.slice none 0 0)).setCell ⟨p, 2, none⟩ (.int .i64 0)) :=
  (((fr_set w3 p 3 _).trans (fr_set _ p 4 _)).trans (fr_set _ p 1 _)).trans (fr_set _ p 2 _)
 have hrow := LRow.of_row R3.out
 refine ⟨rfl, _, (Fr.of_below B3.out).trans fs, fun i e => ?_, ⟨(((K3.out.set 3 _).set 4 _).set 1 _).set 2 _, LRow.nil _, hrow.fr fs (fun i e e2 => ?_)⟩⟩
 ·rcases e with e | e | e
  ·exact .inl (.inl e)
  ·cases e
  ·exact .inr (R3.out.lt i e).1
 ·have e2 : i = p := e2
  have h1 := (R3.out.lt i e).1
  have h2 := H.out.d.lt
  omega
theorem rdsnap_no (h : RDk w p v sv s) (hs : s.has = false) :
  Calls Tryz.prog 102 #[.pointer (some ⟨p, 0, none⟩)] w fun e w' => e = .returned (.tuple #[.slice none 0 0, .bool false]) ∧ w = w' := by
 have c0 := h.d.cell (i := 0) (v := .bool true) rfl
 have c4 := h.d.cell (i := 4) rfl
 rw [hs] at c4
 clear h
 go_enter Tryz.func102, Tryz.ntmps102
 go_wp2_with (go_at_call 97; refine (rdvalid p _ c0).mono ?_; rintro e w' ⟨rfl, rfl⟩)
 go_returns
 exact ⟨rfl, rfl⟩
theorem rdsnap_yes (h : RDk w p v sv s) (hs : s.has = true) (hl : s.st.length ≤ 100000000) :
  Calls Tryz.prog 102 #[.pointer (some ⟨p, 0, none⟩)] w fun e w' => ∃ vo, e = .returned (.tuple #[vo, .bool true]) ∧ RowB w.heap.size w' vo s.st ∧ Below w.heap.size w w' := by
 have H := Lib.hid h
 have B1 := Lib.hid (box_below w (.cells #[] 5))
 have c0 := h.d.cell (i := 0) (v := .bool true) rfl
 have c4 := h.d.cell (i := 4) rfl
 have c3 := bcell B1.out (h.d.cell (i := 3) rfl)
 rw [hs] at c4
 obtain ⟨A, c, rfl⟩ := h.srow.shape
 clear h
 go_enter Tryz.func102, Tryz.ntmps102
 go_wp2_with (first
  | (go_at_call 97; refine (rdvalid p _ c0).mono ?_; rintro e w' ⟨rfl, rfl⟩)
  | (at_builtin; refine wpList_append_bs _ rfl _ _ rfl w.heap.size _ 0 [] rfl (World.ownsRow_made w #[] 0 (Nat.le_refl _) (Nat.zero_le _) (by simp)) _ s.st rfl (H.out.srow.bsIn.below B1.out) (by omega) (by simp) ?_; intro v3 w3 ho3 hg3 hoa3; have R3 := Lib.hid (show RowB w.heap.size w3 v3 s.st by unfold RowB; simpa using ho3); have f3 : Fr (S1 w.heap.size) (w.alloc (.cells #[] 5)) w3 := Fr.of_grown hg3 (fun i e => by cases e; rfl); have B3 := Lib.hid (Fr.upB B1.out f3 (fun i e => by have e : i = w.heap.size := e; omega)); clear ho3 hg3 hoa3 f3))
 go_returns
 exact ⟨_, rfl, R3.out, B3.out⟩
theorem rapp_leaf {w3 : World} {v3 : Value} {bs : List UInt8} (h : RDk w p v sv s) (b3 : Below w.heap.size w w3) (r3 : RowB w.heap.size w3 v3 bs) : RDStep w p v sv (w3.setCell ⟨p, 1, none⟩ v3) v3 sv { s with b := bs } := by
 have k3 := h.d.of_block (b3.block _ h.d.lt)
 have fs := fr_set w3 p 1 v3
 refine ⟨(Fr.of_below b3).trans fs, fun i e => ?_, ⟨k3.set 1 _, (LRow.of_row r3).fr fs (fun i e e2 => ?_), (h.srow.fr (Fr.of_below (S := S0) b3) (fun _ _ e => e)).fr fs (fun i e e2 => ?_)⟩⟩
 ·rcases e with e | e | e
  ·exact .inl (.inl e)
  ·exact .inr (r3.lt i e).1
  ·exact .inl (.inr (.inr e))
 ·have e2 : i = p := e2
  have h1 := (r3.lt i e).1
  have h2 := h.d.lt
  omega
 ·exact h.neRow (.inr e) e2
set_option maxHeartbeats 1000000 in
theorem rdapp_yes (u : Value) (bs : List UInt8) (h : RDk w p v sv s) (hg : DGood s) (hu : BsIn w u bs) (hl : bs.length ≤ 65536) (hf : s.b.length + 8 + bs.length ≤ 16777216) :
  Calls Tryz.prog 50 #[.pointer (some ⟨p, 0, none⟩), u] w fun e w' => e = .returned (.int .i64 0) ∧ ∃ v', RDStep w p v sv w' v' sv { s with b := s.b ++ frameB bs } := by
 have c0 := h.d.cell (i := 0) (v := .bool true) rfl
 have H := Lib.hid h
 have HM := rmake_yes u bs w hu hl
 have hfl := frameB_length bs
 generalize frameB bs = fb at *
 have hm := hg.most
 have hd : decide ((s.b.length : Int) + (fb.length : Int) > 16777216) = false := decide_eq_false (by omega)
 have hfb : fb.length ≤ 65544 := by omega
 have HM := Lib.hid HM
 obtain ⟨A, c, rfl⟩ := h.row.shape
 clear h hu hg hfl hf
 go_enter Tryz.func50, Tryz.ntmps50
 go_wp2_with (first
  | (go_at_call 97; refine (rdvalid p _ c0).mono ?_; rintro e w' ⟨rfl, rfl⟩)
  | (go_at_call 136; refine HM.out.mono ?_; rintro e w2 ⟨vo, rfl, ho, hb⟩; obtain ⟨a9, c9, rfl, _⟩ := ho.shape; have B2 := Lib.hid hb; have O2 := Lib.hid ho; have q1 := bcell hb (H.out.d.cell (i := 1) rfl); have q2 := bcell (box_below w2 (.cells #[] 5)) q1; clear ho hb)
  | (at_builtin; refine wpList_append_bs _ rfl _ _ rfl w2.heap.size _ 0 [] rfl (World.ownsRow_made w2 #[] 0 (Nat.le_refl _) (Nat.zero_le _) (by simp)) _ s.b rfl (H.out.row.bsIn.below (bchain B2.out (box_below w2 (.cells #[] 5)))) (by omega) (by simp) ?_; intro v3 w3 ho3 hg3 hoa3; have f3 : Fr (S1 w2.heap.size) (w2.alloc (.cells #[] 5)) w3 := Fr.of_grown hg3 (fun i e => by cases e; rfl); have B3 := Lib.hid (Fr.upB (box_below w2 (.cells #[] 5)) f3 (fun i e => Nat.le_of_eq (show i = w2.heap.size from e).symm)); have O3 := Lib.hid (O2.out.below B3.out); rw [Nat.zero_add, List.nil_append] at ho3; obtain ⟨A3, c3, rfl⟩ := row_len ho3; have R3 := Lib.hid ho3; clear ho3 hg3 hoa3 f3)
  | (at_builtin; refine wpList_append_bs _ rfl _ _ rfl w2.heap.size _ _ _ rfl R3.out _ fb rfl O3.out (by omega) B3.out.size ?_; intro v4 w4 ho4 hg4 hoa4; have B4 := Lib.hid (Fr.upB B3.out (Fr.of_grown (S := fun i => w2.heap.size ≤ i) hg4 (fun i e => (R3.out.lt i e).1)) (fun i e => e)); have R4 := Lib.hid (show RowB w.heap.size w4 v4 (s.b ++ fb) from World.ownsRow.mono (by rw [List.length_append, List.map_append]; exact ho4) B2.out.size); obtain ⟨A4, c4, hv4⟩ := row_len ho4; subst hv4; have g1 := (H.out.below (bchain B2.out B4.out)).d.frozen 1; have g2 := (H.out.below (bchain B2.out B4.out)).d.cell (i := 1) rfl; clear ho4 hg4 hoa4))
 go_returns
 exact ⟨rfl, _, rapp_leaf H.out (bchain B2.out B4.out) R4.out⟩
end
end Go.Proofs.YtlfikhblmbidmaaGreatDoor
namespace Go.Proofs.YtlfikhblmbidmaaGreatDoor
open Go.RowKit Go.Maps
theorem frm_at {W : World} {lo : Nat} {v : Value} {xs : List FrmX} (h : FrmRow W lo v xs) {i : Nat} {x : FrmX} (hx : xs[i]? = some x) :
  ∃ g cap, v = .slice (some ⟨g, 0, none⟩) xs.length cap ∧ g < W.heap.size ∧ W.cell? ⟨g, i * 2, none⟩ = some (.int .i64 ((x.at_ : Nat) : Int)) ∧ W.cell? ⟨g, i * 2 + 1, none⟩ = some x.v := by
 obtain ⟨h1, h2⟩ := cellsX_at xs i x hx
 obtain ⟨A, cap, hv, _, _, _, _, hc⟩ := row_view h.row
 obtain ⟨g, rfl, _, hg, hcell⟩ := hc (by have := (List.getElem?_eq_some_iff.1 hx).1; omega)
 exact ⟨g, cap, hv, hg, hcell _ _ h1, hcell _ _ h2⟩
def toRec (xs : List FrmX) : List RecX := xs.map fun x => (x.v, x.c)
section
variable {w : World} {p : Nat} {v sv : Value} {s : DSt}
set_option maxRecDepth 100000 in
set_option maxHeartbeats 2000000 in
theorem rdrecords_any (h : RDk w p v sv s) (hg : DGood s) :
  Calls Tryz.prog 104 #[.pointer (some ⟨p, 0, none⟩)] w fun e w' => ∃ vo xs, e = .returned vo ∧ xs.map (·.2) = (allF s.b).1 ∧ RecRow w' w.heap.size vo xs ∧ Below w.heap.size w w' := by
 obtain ⟨i0, hi, hz0, hz1, hz2⟩ := info_parts info_bs
 have HI := Lib.hid hi
 have HZ0 := Lib.hid hz0
 have HZ1 := Lib.hid hz1
 have HZ2 := Lib.hid hz2
 have hm := hg.most
 have c0 := h.d.cell (i := 0) (v := .bool true) rfl
 have c1 := h.d.cell (i := 1) rfl
 have HA := Lib.hid (rall_any v s.b w h.row.bsIn (by omega))
 obtain ⟨A, c, rfl⟩ := h.row.shape
 have hcnt := allF_count _ s.b (Nat.le_refl _)
 clear hi hz0 hz1 hz2 h
 go_enter Tryz.func104, Tryz.ntmps104
 go_wp2_with (first
  | (go_at_call 97; refine (rdvalid p _ c0).mono ?_; rintro e w' ⟨rfl, rfl⟩)
  | (go_at_call 138; refine HA.out.mono ?_; rintro e w1 ⟨vo, xs, rfl, hxs, hr, hb⟩; obtain ⟨A1, c1', rfl⟩ := row_len hr.row; have HX := Lib.hid hxs; have HR := Lib.hid hr; have HB := Lib.hid hb; clear hxs hr hb))
 have hxl : xs.length ≤ 16777216 := by
  have := HX.out
  rw [← this, List.length_map] at hcnt
  omega
 clear hcnt c0 c1
 go_loopw [3, 6] (fun v3 ci wr => ∃ i : Nat, i ≤ xs.length ∧ ci = .int .i64 (i : Int) ∧ wr.ownsRow w1.heap.size 26 1 v3 i (((toRec xs).take i).map (·.1)) ∧ Below w1.heap.size w1 wr) (fun _ c _ => xs.length - (intOf c).toNat)
 case atStart => exact ⟨0, Nat.zero_le _, rfl, World.ownsRow_nil _ _ _ _, Below.refl _ _⟩
 case round =>
  obtain ⟨i, hi, rfl, hrow, hBw⟩ := hrel
  have HROW := Lib.hid hrow
  obtain ⟨A3, c3, rfl⟩ := row_len hrow
  clear hrow
  by_cases hlt : i < xs.length
  ·obtain ⟨x, hx⟩ : ∃ x, xs[i]? = some x := ⟨_, List.getElem?_eq_getElem hlt⟩
   obtain ⟨g, cap, hA, hgl, q0, q1⟩ := frm_at (HR.out.below hBw) hx
   obtain ⟨rfl, rfl⟩ : A1 = some ⟨g, 0, none⟩ ∧ c1' = cap := by simpa using hA
   obtain ⟨xa, xc, hxv⟩ := row_len (HR.out.rows x (List.mem_of_getElem? hx))
   rw [hxv] at q1
   have HSn : Hid (((toRec xs).take (i + 1)).map (·.1) = ((toRec xs).take i).map (·.1) ++ [x.v]) := by
    rw [Hid, List.take_add_one, List.map_append]
    congr 1
    simp [toRec, hx]
   rw [hxv] at HSn
   clear hx hA hxv
   go_wp2_with (at_builtin; go_must (refine wpList_append_own _ rfl _ _ 49 rfl w1.heap.size 26 i0 (.slice none 0 0) 1 24 Tryz.underlying49 HI.out HZ0.out HZ1.out HZ2.out rfl (by decide) _ _ _ rfl (World.ownsRow.alloc HROW.out _) ⟨wr.heap.size, 0, none⟩ 1 1 [.slice xa x.c.length xc] rfl rfl (cell_one_new _ _ _) (by simp [Value.oneCell']) (by unfold maxLen; omega) (by omega) (by have := hBw.size; simp; omega) ?_); intro v' w4 hown hgrow _)
   have hne1 : ∀ k', some k' = _ → w1.heap.size ≤ k' := fun k' hk' => (HROW.out.lt k' hk'.symm).1
   have hown' : w4.ownsRow w1.heap.size 26 1 v' (i + 1) (((toRec xs).take (i + 1)).map (·.1)) := by
    rw [HSn.out]
    exact hown
   have hB4 := (hBw.alloc hBw.size _).grown hgrow (by have := hBw.size; simp; omega) (fun k' ek => by have := hne1 k' ek.symm; omega)
   go_wp2_with fail
   go_roundw
   case rel => exact ⟨i + 1, by omega, by go_num, hown', hB4⟩
   case measure => simp [intOf]; omega
  ·obtain rfl : i = xs.length := by omega
   have hrow := HROW.out
   have htl : (toRec xs).length = xs.length := by simp [toRec]
   rw [← htl, List.take_length] at hrow
   have HRW := Lib.hid hrow
   clear hrow
   go_wp2_with fail
   go_returns
   refine ⟨_, toRec xs, rfl, ?_, ⟨World.ownsRow.mono (by rw [← htl]; exact HRW.out) HB.out.size, fun y hy => ?_⟩, HB.out.trans (hBw.mono HB.out.size)⟩
   ·rw [← HX.out]
    simp [toRec]
   ·obtain ⟨x, hx, rfl⟩ := List.mem_map.1 hy
    exact (HR.out.rows x hx).keep (KeepT.below hBw)
theorem rwrite_yes (u : Value) (bs : List UInt8) (h : RDk w p v sv s) (hg : DGood s) (hu : BsIn w u bs) (hl : bs.length ≤ 65536) (hf : s.b.length + 8 + bs.length ≤ 16777216) :
  Calls Tryz.prog 29 #[.pointer (some ⟨p, 0, none⟩), u] w fun e w' => e = .returned (.int .i64 0) ∧ ∃ v', RDStep w p v sv w' v' sv { s with b := s.b ++ frameB bs, safe := (s.b ++ frameB bs).length } := by
 have HA := Lib.hid (rdapp_yes u bs h hg hu hl hf)
 clear h hg hu hf
 go_enter Tryz.func29, Tryz.ntmps29
 go_wp2_with (first
  | (go_at_call 50; refine HA.out.mono ?_; rintro r w2 ⟨rfl, v', hS⟩; have HS := Lib.hid hS; clear hS)
  | (go_at_call 98; refine (rdsync_any HS.out.at_).mono ?_; rintro r w3 ⟨rfl, hT⟩; have HT := Lib.hid hT; clear hT))
 go_returns
 exact ⟨rfl, v', HS.out.trans HT.out⟩
end
end Go.Proofs.YtlfikhblmbidmaaGreatDoor