/- Laid together by gen/merge.py: RdA RdB RdC RdD RdE RdF RdG ParA ParB ParC. -/
import Derived.Test.YtlfikhblmbidmaaGreatDoorMrgD
import Derived.Lib.BufferRead
import Derived.Test.YtlfikhblmbidmaaGreatDoorMrgB
import Derived.WalkLawsBesides
import Derived.Defers
import Derived.Recover
set_option linter.all false
namespace Go.Proofs.YtlfikhblmbidmaaGreatDoor
open Go.RowKit Go.Maps
def numV (r : Option (Nat × Nat)) : Value := match r with
 | some (n, k) => .tuple #[.int .u64 ((n : Nat) : Int), .int .i64 ((k : Nat) : Int)]
 | none => .tuple #[.int .u64 0, .int .i64 0]
theorem andNot128 (z : UInt8) : bits .andNot .u8 (z.toNat : Int) 128 = ((z.toNat % 128 : Nat) : Int) := by
 have h := u8_andNot_nat z.toNat 128 (by have := z.toNat_lt; omega) (by decide)
 rw [show 255 - 128 = 2 ^ 7 - 1 from rfl, Nat.and_two_pow_sub_one_eq_mod] at h
 exact h
theorem num_or {i m : Nat} {z : UInt8} (hi : i ≤ 8) (hm : m < 128 ^ i) : bits .or .u64 (m : Int) (IntKind.u64.wrap ((z.toNat : Int) % 128 * 2 ^ (7 * i))) = ((m + z.toNat % 128 * 128 ^ i : Nat) : Int) := by
 have e1 : (128 : Nat) ^ i = 2 ^ (7 * i) := by rw [Nat.pow_mul]
 have hb : (128 : Nat) ^ i ≤ 128 ^ 8 := Nat.pow_le_pow_right (by decide) hi
 have h8 : (128 : Nat) ^ 8 = 72057594037927936 := by decide
 have h1 : z.toNat % 128 * 128 ^ i ≤ 127 * 128 ^ i := Nat.mul_le_mul_right _ (by omega)
 have h2 : z.toNat % 128 * 128 ^ i < 18446744073709551616 := by omega
 have e2 : (z.toNat : Int) % 128 * 2 ^ (7 * i) = ((z.toNat % 128 * 128 ^ i : Nat) : Int) := by rw [e1]; push_cast; rfl
 have e3 : IntKind.u64.wrap ((z.toNat % 128 * 128 ^ i : Nat) : Int) = ((z.toNat % 128 * 128 ^ i : Nat) : Int) := by
  rw [IntKind.wrap_u64]
  exact Int.emod_eq_of_lt (by omega) (by omega)
 rw [e2, e3, u64_or_nat _ _ (by omega) h2, Nat.or_comm, nat_join (7 * i) _ _ (by rw [e1]; exact Nat.mul_mod_left _ _) (by rw [← e1]; exact hm), Nat.add_comm]
theorem num_or9 {m : Nat} (hm : m < 128 ^ 9) : bits .or .u64 (m : Int) (IntKind.u64.wrap (IntKind.u64.wrap (bits .andNot .u8 1 128) * 9223372036854775808)) = ((m + 1 * 128 ^ 9 : Nat) : Int) := by
 have e0 : IntKind.u64.wrap (IntKind.u64.wrap (bits .andNot .u8 1 128) * 9223372036854775808) = ((9223372036854775808 : Nat) : Int) := by decide
 have h9 : (128 : Nat) ^ 9 = 9223372036854775808 := by decide
 rw [h9] at hm
 rw [e0, u64_or_nat _ _ (by omega) (by decide), Nat.or_comm, nat_join 63 _ _ (by decide) (by omega), h9, Nat.one_mul, Nat.add_comm]
set_option maxRecDepth 100000 in
set_option maxHeartbeats 2000000 in
theorem number_any (v : Value) (bs : List UInt8) (w : World) (hv : BsIn w v bs) (hl : bs.length ≤ 100000000) :
  Calls Tryz.prog 206 #[v] w fun e w' => e = .returned (numV (numB 0 0 bs)) ∧ w = w' := by
 have HV := Lib.hid hv
 obtain ⟨A, c, rfl, hle, hcm⟩ := hv.shape
 clear hv
 go_enter Tryz.func206, Tryz.ntmps206
 go_wp2_with fail
 go_loop [4, 9] (fun n c => ∃ i m : Nat, i ≤ bs.length ∧ i ≤ 9 ∧ c = .int .i64 i ∧ n = .int .u64 m ∧ m < 128 ^ i ∧ numB 0 0 bs = numB i m (bs.drop i)) (fun _ c => bs.length - (intOf c).toNat)
 case atStart => exact ⟨0, 0, Nat.zero_le _, by omega, rfl, rfl, by decide, by simp⟩
 case round =>
  obtain ⟨i, m, hi, hi9, rfl, rfl, hm, hnum⟩ := hrel
  have HN := Lib.hid hnum
  clear hnum
  by_cases hlt : i < bs.length
  ·obtain ⟨z, hz⟩ : ∃ z, bs[i]? = some z := ⟨_, List.getElem?_eq_getElem hlt⟩
   obtain ⟨A1, c1, e1, _, _, hcells⟩ := HV.out
   cases e1
   obtain ⟨b, off, rfl, hb, hc⟩ := hcells (by omega)
   have hcz := hc i z hz
   have hzt := z.toNat_lt
   have hdr : bs.drop i = z :: bs.drop (i + 1) := by rw [List.drop_eq_getElem_cons hlt]; congr 1; rw [List.getElem?_eq_getElem hlt] at hz; exact Option.some.inj hz
   have HD := Lib.hid hdr
   clear hdr hcells hc hz
   have he1 := andNot128 z
   by_cases h9 : i = 9
   ·subst h9
    by_cases h1 : 1 < z.toNat
    ·have HR := Lib.hid (show numB 0 0 bs = none by rw [HN.out, HD.out]; simp only [numB]; rw [if_pos (Or.inl ⟨trivial, h1⟩)])
     go_wp2_with fail
     go_returns
     exact ⟨by rw [HR.out]; rfl, rfl⟩
    ·by_cases h0 : z.toNat = 0
     ·have HR := Lib.hid (show numB 0 0 bs = none by rw [HN.out, HD.out]; simp only [numB]; rw [if_pos (Or.inr ⟨by decide, h0⟩)])
      have h2 : ((z.toNat : Int) == 0) = true := by simp [h0]
      clear h0
      go_wp2_with fail
      go_returns
      exact ⟨by rw [HR.out]; rfl, rfl⟩
     ·have hz1 : z.toNat = 1 := by omega
      have HR := Lib.hid (show numB 0 0 bs = some (m + 1 * 128 ^ 9, 10) by rw [HN.out, HD.out]; simp only [numB, hz1]; simp)
      have hz : z = 1 := UInt8.toNat_inj.1 (by rw [hz1]; rfl)
      subst hz
      clear h0 h1 hz1 hzt he1
      go_wp2_with fail
      go_returns
      refine ⟨?_, rfl⟩
      rw [num_or9 hm, HR.out]
      rfl
   ·have h9' : ((i : Int) == 9) = false := by simp; omega
    have hi8 : i ≤ 8 := by omega
    clear h9
    by_cases h0 : 0 < i ∧ z.toNat = 0
    ·have HR := Lib.hid (show numB 0 0 bs = none by rw [HN.out, HD.out]; simp only [numB]; rw [if_pos (Or.inr h0)])
     have h2 : ((z.toNat : Int) == 0) = true := by simp [h0.2]
     have h3 : 0 < i := h0.1
     clear h0
     go_wp2_with fail
     go_returns
     exact ⟨by rw [HR.out]; rfl, rfl⟩
    ·have hc : ¬ ((i = 9 ∧ 1 < z.toNat) ∨ (0 < i ∧ z.toNat = 0)) := by omega
     have HCC := Lib.hid hc
     have h2 : ((i : Int) > 0) → ((z.toNat : Int) == 0) = false := fun h => by simp; omega
     clear hc h0
     by_cases hs : z.toNat < 128
     ·have HR := Lib.hid (show numB 0 0 bs = some (m + z.toNat % 128 * 128 ^ i, i + 1) by rw [HN.out, HD.out]; simp only [numB]; rw [if_neg HCC.out, if_pos hs])
      go_wp2_with fail
      all_goals
       go_returns
       refine ⟨?_, rfl⟩
       rw [num_or hi8 hm, HR.out]
       simp [numV]
     ·have hs2 : ¬ ((z.toNat : Int) < 128) := by omega
      have HN2 : Hid (numB 0 0 bs = numB (i + 1) (m + z.toNat % 128 * 128 ^ i) (bs.drop (i + 1))) := by
       rw [HN.out, HD.out]
       simp only [numB]
       rw [if_neg HCC.out, if_neg hs]
       rfl
      have HM : Hid (m + z.toNat % 128 * 128 ^ i < 128 ^ (i + 1)) := by
       have h1 : z.toNat % 128 * 128 ^ i ≤ 127 * 128 ^ i := Nat.mul_le_mul_right _ (by omega)
       show _ < 128 ^ (i + 1)
       rw [Nat.pow_succ]
       omega
      clear hs
      go_wp2_with fail
      all_goals
       rw [num_or hi8 hm]
       refine ⟨⟨i + 1, _, by omega, by omega, by go_num, rfl, HM.out, HN2.out⟩, by simp [intOf]; omega⟩
  ·have HR := Lib.hid (show numB 0 0 bs = none by rw [HN.out, List.drop_eq_nil_of_le (by omega)]; rfl)
   go_wp2_with fail
   go_returns
   exact ⟨by rw [HR.out]; rfl, rfl⟩
end Go.Proofs.YtlfikhblmbidmaaGreatDoor
namespace Go.Proofs.YtlfikhblmbidmaaGreatDoor
open Go.RowKit Go.Maps
def RdAt (w : World) (lo p : Nat) : Rd → Prop
 | none => Blk w p 257 #[.bool true, .bool true, .slice none 0 0] ∧ lo ≤ p
 | some bs => ∃ A c, Blk w p 257 #[.bool true, .bool false, .slice A bs.length c] ∧ BsIn w (.slice A bs.length c) bs ∧ (∀ a, A = some a → lo ≤ a.block ∧ a.block < p) ∧ lo ≤ p
theorem RdAt.lt {w : World} {lo p : Nat} {st : Rd} (h : RdAt w lo p st) : p < w.heap.size := by
 cases st with
 | none => exact h.1.lt
 | some bs => obtain ⟨A, c, h, _⟩ := h; exact h.lt
theorem RdAt.lo {w : World} {lo p : Nat} {st : Rd} (h : RdAt w lo p st) : lo ≤ p := by
 cases st with
 | none => exact h.2
 | some bs => obtain ⟨A, c, _, _, _, h⟩ := h; exact h
theorem RdAt.fr {S : Nat → Prop} {w w' : World} {lo p : Nat} {st : Rd} (h : RdAt w lo p st) (k : Fr S w w') (hS : ∀ i, lo ≤ i → i ≤ p → ¬ S i) : RdAt w' lo p st := by
 cases st with
 | none => exact ⟨h.1.fr k (hS p h.2 (Nat.le_refl _)), h.2⟩
 | some bs =>
  obtain ⟨A, c, h1, h2, h3, h4⟩ := h
  refine ⟨A, c, h1.fr k (hS p h4 (Nat.le_refl _)), h2.fr k (fun i hi hlt a n c e => ?_), h3, h4⟩
  cases e
  obtain ⟨k1, k2⟩ := h3 a rfl
  rintro rfl
  exact hS _ k1 (Nat.le_of_lt k2) hi
theorem RdAt.below {w w' : World} {lo p : Nat} {st : Rd} (h : RdAt w lo p st) (k : Below w.heap.size w w') : RdAt w' lo p st := h.fr (Fr.of_below k : Fr S0 w w') (fun _ _ _ e => e)
structure RStep (w : World) (lo p : Nat) (w' : World) (st : Rd) : Prop where
 fr : Fr (S1 p) w w'
 at_ : RdAt w' lo p st
theorem RStep.refl {w : World} {lo p : Nat} {st : Rd} (h : RdAt w lo p st) : RStep w lo p w st := ⟨Fr.refl _ _, h⟩
theorem RStep.trans {w w' w'' : World} {lo p : Nat} {st st' : Rd} (h : RStep w lo p w' st) (k : RStep w' lo p w'' st') : RStep w lo p w'' st' := ⟨h.fr.trans k.fr, k.at_⟩
theorem RStep.below {w w' : World} {lo p : Nat} {st : Rd} (h : RdAt w lo p st) (k : Below w.heap.size w w') : RStep w lo p w' st := ⟨Fr.of_below k, h.below k⟩
theorem rread_any (v : Value) (bs : List UInt8) (w : World) (h : BsIn w v bs) (hl : bs.length ≤ 100000000) :
  Calls Tryz.prog 155 #[v] w fun e w' => ∃ p, e = .returned (.pointer (some ⟨p, 0, none⟩)) ∧ RdAt w' w.heap.size p (some bs) ∧ Below w.heap.size w w' := by
 have HC := Lib.hid (bclone_any v bs w h hl)
 clear h
 go_enter Tryz.func155, Tryz.ntmps155
 go_wp2_with (go_at_call 23; refine HC.out.mono ?_; rintro e w2 ⟨vo, rfl, ho, b2⟩; obtain ⟨a9, c9, rfl⟩ := row_len ho; have HO := Lib.hid ho; have HB2 := Lib.hid b2; clear ho b2)
 go_returns
 have hb3 : Below w2.heap.size w2 (w2.alloc (.cells #[.bool true, .bool false, .slice a9 bs.length c9] 257)) := (Below.refl _ _).alloc (Nat.le_refl _) _
 refine ⟨w2.heap.size, rfl, ⟨a9, c9, Blk.new _ _ _, (bsIn_row HO.out).below hb3, fun a e => ?_, HB2.out.size⟩, HB2.out.alloc HB2.out.size _⟩
 subst e
 exact World.ownsRow.lt HO.out a.block rfl
theorem rfail_any (lo p : Nat) (st : Rd) (w : World) (h : RdAt w lo p st) :
  Calls Tryz.prog 225 #[.pointer (some ⟨p, 0, none⟩)] w fun e w' => e = .returned (.tuple #[]) ∧ RStep w lo p w' none := by
 obtain ⟨f, v, hB⟩ : ∃ f A n c, Blk w p 257 #[.bool true, .bool f, .slice A n c] := by
  cases st with
  | none => exact ⟨_, _, _, _, h.1⟩
  | some bs => obtain ⟨A, c, h1, _⟩ := h; exact ⟨_, _, _, _, h1⟩
 obtain ⟨n, c, hB⟩ := hB
 have hlo := h.lo
 have c1 := hB.cell (i := 1) rfl
 have c2 := hB.cell (i := 2) rfl
 have f1 := hB.frozen 1
 have f2 := hB.frozen 2
 have HB := Lib.hid hB
 clear h hB
 go_enter Tryz.func225, Tryz.ntmps225
 go_wp2_with fail
 go_returns
 exact ⟨rfl, (fr_set w p 1 _).trans (fr_set _ p 2 _), (HB.out.set 1 _).set 2 _, hlo⟩
theorem bs_drop {w : World} {A A' : Option Addr} {n c k : Nat} {bs : List UInt8} (h : BsIn w (.slice A n c) bs) (hk : k ≤ n) (hA : n = k ∨ A' = A.map (·.add k)) : BsIn w (.slice A' (n - k) (c - k)) (bs.drop k) := by
 obtain ⟨A2, c2, e, hle, hmax, hcells⟩ := h
 cases e
 refine ⟨A', c - k, by simp, by simp; omega, by omega, fun h0 => ?_⟩
 simp at h0
 have hne : ¬ bs.length = k := by omega
 have hpos : 0 < bs.length := by omega
 obtain ⟨b, off, rfl, hb, hc⟩ := hcells hpos
 obtain rfl := hA.resolve_left hne
 refine ⟨b, off + k, by simp [Addr.add_lit], hb, fun i z hz => ?_⟩
 rw [List.getElem?_drop] at hz
 rw [Nat.add_assoc]
 exact hc _ _ hz
theorem numB_len {b : List UInt8} {n k : Nat} (h : numB 0 0 b = some (n, k)) : 0 < k ∧ k ≤ b.length ∧ n < 18446744073709551616 := by
 obtain ⟨h1, rfl, r, rfl⟩ := (numB_iff _ _ _).1 h
 exact ⟨uintB_pos n, by simp, h1⟩
theorem drop_leaf {w : World} {lo p k c c' m : Nat} {A A' : Option Addr} {bs : List UInt8} (h1 : Blk w p 257 #[.bool true, .bool false, .slice A bs.length c]) (h2 : BsIn w (.slice A bs.length c) bs) (h3 : ∀ a, A = some a → lo ≤ a.block ∧ a.block < p) (h4 : lo ≤ p) (hk : k ≤ bs.length)
  (hm : m = bs.length - k) (hc : c' = c - k) (hA : (A' = A ∧ c = k) ∨ A' = A.map (·.add k)) : RStep w lo p (w.setCell ⟨p, 2, none⟩ (.slice A' m c')) (some (bs.drop k)) := by
 subst hm hc
 have fs := fr_set w p 2 (.slice A' (bs.length - k) (c - k))
 have hb : ∀ a, A' = some a → lo ≤ a.block ∧ a.block < p := fun a e => by
  rcases hA with ⟨rfl, _⟩ | rfl
  ·exact h3 a e
  ·cases A with
   | none => cases e
   | some a0 =>
    cases e
    have := h3 a0 rfl
    have e2 : (a0.add k).block = a0.block := by unfold Addr.add; split <;> rfl
    rw [e2]
    exact this
 have hd : BsIn w (.slice A' (bs.length - k) (c - k)) (bs.drop k) := bs_drop h2 hk (by
  rcases hA with ⟨rfl, rfl⟩ | rfl
  ·obtain ⟨_, _, e, hle, _⟩ := h2.shape
   cases e
   exact .inl (by omega)
  ·exact .inr rfl)
 have hl : (bs.drop k).length = bs.length - k := by simp
 refine ⟨fs, A', c - k, by rw [hl]; exact h1.set 2 _, ?_, hb, h4⟩
 rw [hl]
 refine hd.fr fs (fun i hi hlt a n c e => ?_)
 cases e
 have := (hb a rfl).2
 have hi : i = p := hi
 omega
set_option maxRecDepth 100000 in
set_option maxHeartbeats 2000000 in
theorem takeU_any (lo p : Nat) (st : Rd) (w : World) (h : RdAt w lo p st) (hl : ∀ bs, st = some bs → bs.length ≤ 100000000) :
  Calls Tryz.prog 224 #[.pointer (some ⟨p, 0, none⟩), .func (.func 206) #[] #[]] w fun e w' => e = .returned (.int .u64 (((rdU st).1 : Nat) : Int)) ∧ RStep w lo p w' (rdU st).2 := by
 have H := Lib.hid h
 cases st with
 | none =>
  have c0 := h.1.cell (i := 0) rfl
  have c1 := h.1.cell (i := 1) rfl
  clear h
  go_enter Tryz.func224, Tryz.ntmps224
  go_wp2_with fail
  go_returns
  exact ⟨rfl, RStep.refl H.out⟩
 | some bs =>
  have hl := hl bs rfl
  obtain ⟨A, c, h1, h2, h3, h4⟩ := h
  have c0 := h1.cell (i := 0) rfl
  have c1 := h1.cell (i := 1) rfl
  have c2 := h1.cell (i := 2) (v := .slice A bs.length c) rfl
  have f2 := h1.frozen 2
  obtain ⟨_, _, e, hle, hcm⟩ := h2.shape
  cases e
  have hN := number_any _ bs w h2 hl
  have H1 := Lib.hid h1
  have H2 := Lib.hid h2
  have H3 := Lib.hid h3
  clear h1 h2 h3
  cases hq : numB 0 0 bs with
  | none =>
   rw [hq] at hN
   simp only [numV] at hN
   have HN := Lib.hid hN
   have hr : rdU (some bs) = (0, none) := by simp [rdU, hq]
   have HR := Lib.hid hr
   clear hN hq hr
   rw [HR.out]
   go_enter Tryz.func224, Tryz.ntmps224
   go_wp2_with (first
    | (go_at_call 206; refine HN.out.mono ?_; rintro e w2 ⟨rfl, rfl⟩)
    | (go_at_call 225; refine (rfail_any lo p _ w H.out).mono ?_; rintro e w2 ⟨rfl, hS⟩; have HS := Lib.hid hS; clear hS))
   go_returns
   exact ⟨rfl, HS.out⟩
  | some y =>
   obtain ⟨n, k⟩ := y
   rw [hq] at hN
   simp only [numV] at hN
   obtain ⟨k1, k2, k3⟩ := numB_len hq
   have HN := Lib.hid hN
   have hr : rdU (some bs) = (n, some (bs.drop k)) := by simp [rdU, hq]
   have HR := Lib.hid hr
   clear hN hq hr
   rw [HR.out]
   go_enter Tryz.func224, Tryz.ntmps224
   go_wp2_with (first
    | (go_at_call 206; refine HN.out.mono ?_; rintro e w2 ⟨rfl, rfl⟩))
   ·go_returns
    exact ⟨rfl, drop_leaf H1.out H2.out H3.out h4 k2 rfl (by omega) (.inl ⟨rfl, by omega⟩)⟩
   ·go_returns
    exact ⟨rfl, drop_leaf H1.out H2.out H3.out h4 k2 rfl rfl (.inr rfl)⟩
theorem ruint_any (lo p : Nat) (st : Rd) (w : World) (h : RdAt w lo p st) (hl : ∀ bs, st = some bs → bs.length ≤ 100000000) :
  Calls Tryz.prog 203 #[.pointer (some ⟨p, 0, none⟩)] w fun e w' => e = .returned (.int .u64 (((rdU st).1 : Nat) : Int)) ∧ RStep w lo p w' (rdU st).2 := by
 have HT := Lib.hid (takeU_any lo p st w h hl)
 clear h
 go_enter Tryz.func203, Tryz.ntmps203
 go_wp2_with (go_at_call 224; refine HT.out.mono ?_; rintro e w2 ⟨rfl, hS⟩; have HS := Lib.hid hS; clear hS)
 go_returns
 exact ⟨rfl, HS.out⟩
def endE (st : Rd) : Int := if st = some [] then 0 else 10
theorem endE_iff (st : Rd) : endE st = 0 ↔ st = some [] := by unfold endE; split <;> simp [*]
theorem endE_other (st : Rd) (h : st ≠ some []) : endE st = 10 := if_neg h
theorem rend_any (lo p : Nat) (st : Rd) (w : World) (h : RdAt w lo p st) :
  Calls Tryz.prog 156 #[.pointer (some ⟨p, 0, none⟩)] w fun e w' => e = .returned (.int .i64 (endE st)) ∧ w = w' := by
 cases st with
 | none =>
  have c0 := h.1.cell (i := 0) rfl
  have c1 := h.1.cell (i := 1) rfl
  clear h
  rw [endE_other none (by simp)]
  go_enter Tryz.func156, Tryz.ntmps156
  go_wp2_with fail
  go_returns
  exact ⟨rfl, rfl⟩
 | some bs =>
  obtain ⟨A, c, h1, h2, h3, h4⟩ := h
  have c0 := h1.cell (i := 0) rfl
  have c1 := h1.cell (i := 1) rfl
  have c2 := h1.cell (i := 2) (v := .slice A bs.length c) rfl
  clear h1 h2 h3 h4
  cases bs with
  | nil =>
   rw [(endE_iff (some [])).2 rfl]
   go_enter Tryz.func156, Tryz.ntmps156
   go_wp2_with fail
   go_returns
   exact ⟨rfl, rfl⟩
  | cons z r =>
   have HNE := Lib.hid (endE_other (some (z :: r)) (by simp))
   rw [HNE.out]
   go_enter Tryz.func156, Tryz.ntmps156
   go_wp2_with fail
   go_returns
   exact ⟨rfl, rfl⟩
end Go.Proofs.YtlfikhblmbidmaaGreatDoor
namespace Go.Proofs.YtlfikhblmbidmaaGreatDoor
open Go.RowKit Go.Maps
def sB (l : List UInt8) : ByteArray := ⟨l.toArray⟩
def txtB (b : List UInt8) : Option (List UInt8 × Nat) := match numB 0 0 b with
 | some (n, k) => if n ≤ 65536 ∧ n ≤ b.length - k then some ((b.drop k).take n, k + n) else none
 | none => none
theorem rdT_txt (b : List UInt8) : rdT (some b) = match txtB b with
 | some (t, k) => (t, some (b.drop k))
 | none => ([], none) := by
 simp only [rdT, txtB]
 cases h : numB 0 0 b with
 | none => rfl
 | some y =>
  obtain ⟨n, k⟩ := y
  simp only
  by_cases hc : n ≤ 65536 ∧ n ≤ b.length - k
  ·rw [if_pos hc, if_pos hc]
  ·rw [if_neg hc, if_neg hc]
theorem bs_take {w : World} {A : Option Addr} {n m c : Nat} {bs : List UInt8} (h : BsIn w (.slice A n c) bs) (hm : m ≤ n) : BsIn w (.slice A m c) (bs.take m) := by
 obtain ⟨A2, c2, e, hle, hmax, hcells⟩ := h
 cases e
 have hl : (bs.take m).length = m := by simp; omega
 refine ⟨A, c, by rw [hl], by omega, hmax, fun h0 => ?_⟩
 rw [hl] at h0
 have hpos : 0 < bs.length := by omega
 obtain ⟨b, off, rfl, hb, hc⟩ := hcells hpos
 exact ⟨b, off, rfl, hb, fun i z hz => hc i z (by rw [List.getElem?_take] at hz; split at hz; exact hz; cases hz)⟩
theorem conv_bs {w : World} {A : Option Addr} {n c : Nat} {t : List UInt8} (h : BsIn w (.slice A n c) t) : (convert 26 9 (.slice A n c)).run Tryz.prog w = .ok (.string (sB t)) w := by
 obtain ⟨A2, c2, e, hle, hmax, hcells⟩ := h
 cases e
 cases A with
 | none =>
  have hm : t = [] := by
   cases t with
   | nil => rfl
   | cons x r =>
    obtain ⟨b, off, e, _⟩ := hcells (by simp)
    cases e
  subst hm
  exact Lib.run_convert_nil_bytes w _ _ 5 c Tryz.underlying26 Tryz.underlying5 Tryz.underlying9
 | some a =>
  refine run_convert_bytes_back w _ _ 5 a c t Tryz.underlying26 Tryz.underlying5 Tryz.underlying9 (fun j hj => ?_)
  obtain ⟨b, off, e, _, hc⟩ := hcells (by omega)
  cases e
  rw [Addr.add_lit]
  exact hc j _ (List.getElem?_eq_getElem hj)
set_option maxRecDepth 100000 in
set_option maxHeartbeats 2000000 in
theorem text1_no (v : Value) (bs : List UInt8) (w : World) (hv : BsIn w v bs) (hl : bs.length ≤ 100000000) (h : txtB bs = none) :
  Calls Tryz.prog 205 #[v] w fun e w' => e = .returned (.tuple #[.string ⟨#[]⟩, .int .i64 0]) ∧ w = w' := by
 have hN := number_any v bs w hv hl
 obtain ⟨A, c, rfl, hle, hcm⟩ := hv.shape
 clear hv
 unfold txtB at h
 cases hq : numB 0 0 bs with
 | none =>
  rw [hq] at hN
  simp only [numV] at hN
  have HN := Lib.hid hN
  clear hN hq h
  go_enter Tryz.func205, Tryz.ntmps205
  go_wp2_with (go_at_call 206; refine HN.out.mono ?_; rintro e w2 ⟨rfl, rfl⟩)
  go_returns
  exact ⟨rfl, rfl⟩
 | some y =>
  obtain ⟨n, k⟩ := y
  rw [hq] at hN h
  simp only [numV] at hN
  simp only at h
  obtain ⟨k1, k2, k3⟩ := numB_len hq
  have HN := Lib.hid hN
  have hno : ¬ (n ≤ 65536 ∧ n ≤ bs.length - k) := by
   intro hc
   rw [if_pos hc] at h
   cases h
  have hk0 : ((k : Int) == 0) = false := by simp; omega
  clear hN hq h
  by_cases h6 : n ≤ 65536
  ·have h7 : bs.length - k < n := by omega
   have h8 : ¬ (n : Int) > 65536 := by omega
   clear hno
   go_enter Tryz.func205, Tryz.ntmps205
   go_wp2_with (go_at_call 206; refine HN.out.mono ?_; rintro e w2 ⟨rfl, rfl⟩)
   go_returns
   exact ⟨rfl, rfl⟩
  ·have h8 : (n : Int) > 65536 := by omega
   clear hno
   go_enter Tryz.func205, Tryz.ntmps205
   go_wp2_with (go_at_call 206; refine HN.out.mono ?_; rintro e w2 ⟨rfl, rfl⟩)
   go_returns
   exact ⟨rfl, rfl⟩
set_option maxRecDepth 100000 in
set_option maxHeartbeats 2000000 in
theorem text1_yes (v : Value) (bs t : List UInt8) (e : Nat) (w : World) (hv : BsIn w v bs) (hl : bs.length ≤ 100000000) (h : txtB bs = some (t, e)) :
  Calls Tryz.prog 205 #[v] w fun r w' => r = .returned (.tuple #[.string (sB t), .int .i64 ((e : Nat) : Int)]) ∧ w = w' := by
 have hN := number_any v bs w hv hl
 have HV := Lib.hid hv
 obtain ⟨A, c, rfl, hle, hcm⟩ := hv.shape
 clear hv
 unfold txtB at h
 cases hq : numB 0 0 bs with
 | none => rw [hq] at h; cases h
 | some y =>
  obtain ⟨n, k⟩ := y
  rw [hq] at hN h
  simp only [numV] at hN
  simp only at h
  obtain ⟨k1, k2, k3⟩ := numB_len hq
  have HN := Lib.hid hN
  split at h
  ·rename_i hc
   cases h
   obtain ⟨h6, h7⟩ := hc
   have hk0 : ((k : Int) == 0) = false := by simp; omega
   have h8 : ¬ (n : Int) > 65536 := by omega
   have h9 : k + n ≤ bs.length := by omega
   have hlen : ((bs.drop k).take n).length = n := by simp; omega
   have hcv1 : (convert 26 9 (.slice (A.map (fun x => x.add k)) n (c - k))).run Tryz.prog w = .ok (.string (sB ((bs.drop k).take n))) w := conv_bs (bs_take (bs_drop (A' := A.map (fun x => x.add k)) HV.out k2 (.inr rfl)) (by omega))
   have hcv2 : c = k → (convert 26 9 (.slice A n 0)).run Tryz.prog w = .ok (.string (sB ((bs.drop k).take n))) w := fun e => by
    obtain rfl : n = 0 := by omega
    exact conv_bs ⟨A, 0, rfl, Nat.le_refl _, by unfold maxLen; omega, fun h => absurd h (by simp)⟩
   generalize (bs.drop k).take n = t at *
   clear hN hq
   go_enter Tryz.func205, Tryz.ntmps205
   go_wp2_with (go_at_call 206; refine HN.out.mono ?_; rintro e w2 ⟨rfl, rfl⟩)
   all_goals
    go_returns
    exact ⟨by push_cast; rfl, rfl⟩
  ·cases h
end Go.Proofs.YtlfikhblmbidmaaGreatDoor
namespace Go.Proofs.YtlfikhblmbidmaaGreatDoor
open Go.RowKit Go.Maps
theorem txtB_len {b t : List UInt8} {e : Nat} (h : txtB b = some (t, e)) : 0 < e ∧ e ≤ b.length ∧ t.length ≤ 65536 := by
 unfold txtB at h
 cases hq : numB 0 0 b with
 | none => rw [hq] at h; cases h
 | some y =>
  obtain ⟨n, k⟩ := y
  rw [hq] at h
  simp only at h
  split at h
  ·rename_i hc
   cases h
   obtain ⟨k1, k2, k3⟩ := numB_len hq
   refine ⟨by omega, by omega, ?_⟩
   rw [List.length_take]
   omega
  ·cases h
set_option maxRecDepth 100000 in
set_option maxHeartbeats 2000000 in
theorem takeT_any (lo p : Nat) (st : Rd) (w : World) (h : RdAt w lo p st) (hl : ∀ bs, st = some bs → bs.length ≤ 100000000) :
  Calls Tryz.prog 204 #[.pointer (some ⟨p, 0, none⟩), .func (.func 205) #[] #[]] w fun e w' => e = .returned (.string (sB (rdT st).1)) ∧ RStep w lo p w' (rdT st).2 := by
 have H := Lib.hid h
 cases st with
 | none =>
  have c0 := h.1.cell (i := 0) rfl
  have c1 := h.1.cell (i := 1) rfl
  clear h
  go_enter Tryz.func204, Tryz.ntmps204
  go_wp2_with fail
  go_returns
  exact ⟨rfl, RStep.refl H.out⟩
 | some bs =>
  have hl := hl bs rfl
  obtain ⟨A, c, h1, h2, h3, h4⟩ := h
  have c0 := h1.cell (i := 0) rfl
  have c1 := h1.cell (i := 1) rfl
  have c2 := h1.cell (i := 2) (v := .slice A bs.length c) rfl
  have f2 := h1.frozen 2
  obtain ⟨_, _, e, hle, hcm⟩ := h2.shape
  cases e
  have H1 := Lib.hid h1
  have H2 := Lib.hid h2
  have H3 := Lib.hid h3
  clear h1 h2 h3
  cases hq : txtB bs with
  | none =>
   have HN := Lib.hid (text1_no _ bs w H2.out hl hq)
   have hr : rdT (some bs) = ([], none) := by rw [rdT_txt, hq]
   have HR := Lib.hid hr
   clear hq hr
   rw [HR.out]
   go_enter Tryz.func204, Tryz.ntmps204
   go_wp2_with (first
    | (go_at_call 205; refine HN.out.mono ?_; rintro e w2 ⟨rfl, rfl⟩)
    | (go_at_call 225; refine (rfail_any lo p _ w H.out).mono ?_; rintro e w2 ⟨rfl, hS⟩; have HS := Lib.hid hS; clear hS))
   go_returns
   exact ⟨rfl, HS.out⟩
  | some y =>
   obtain ⟨t, k⟩ := y
   have HN := Lib.hid (text1_yes _ bs t k w H2.out hl hq)
   obtain ⟨k1, k2, k3⟩ := txtB_len hq
   have hr : rdT (some bs) = (t, some (bs.drop k)) := by rw [rdT_txt, hq]
   have HR := Lib.hid hr
   clear hq hr
   rw [HR.out]
   go_enter Tryz.func204, Tryz.ntmps204
   go_wp2_with (go_at_call 205; refine HN.out.mono ?_; rintro e w2 ⟨rfl, rfl⟩)
   ·go_returns
    exact ⟨rfl, drop_leaf H1.out H2.out H3.out h4 k2 rfl (by omega) (.inl ⟨rfl, by omega⟩)⟩
   ·go_returns
    exact ⟨rfl, drop_leaf H1.out H2.out H3.out h4 k2 rfl rfl (.inr rfl)⟩
theorem rtext_any (lo p : Nat) (st : Rd) (w : World) (h : RdAt w lo p st) (hl : ∀ bs, st = some bs → bs.length ≤ 100000000) :
  Calls Tryz.prog 161 #[.pointer (some ⟨p, 0, none⟩)] w fun e w' => e = .returned (.string (sB (rdT st).1)) ∧ RStep w lo p w' (rdT st).2 := by
 have HT := Lib.hid (takeT_any lo p st w h hl)
 clear h
 go_enter Tryz.func161, Tryz.ntmps161
 go_wp2_with (go_at_call 204; refine HT.out.mono ?_; rintro e w2 ⟨rfl, hS⟩; have HS := Lib.hid hS; clear hS)
 go_returns
 exact ⟨rfl, HS.out⟩
end Go.Proofs.YtlfikhblmbidmaaGreatDoor
namespace Go.Proofs.YtlfikhblmbidmaaGreatDoor
open Go.RowKit Go.Maps
theorem need_yes (w : World) : Calls Tryz.prog 159 #[.bool true] w fun e w' => e = .returned (.tuple #[]) ∧ w = w' := by
 go_enter Tryz.func159, Tryz.ntmps159
 go_wp2_with fail
 go_returns
 exact ⟨rfl, rfl⟩
def malC : List PanicEntry := [{ v := .iface 203 (.agg #[]), recovered := false }]
theorem need_no (w : World) : Calls Tryz.prog 159 #[.bool false] w fun e w' => e = .panicked malC ∧ w = w' := by
 go_enter Tryz.func159, Tryz.ntmps159
 go_wp2_with fail
 exact ⟨rfl, rfl, rfl⟩
abbrev rdV (p : Nat) : Value := .agg #[.pointer (some ⟨p, 0, none⟩)]
def Rsmall (st : Rd) : Prop := ∀ bs, st = some bs → bs.length ≤ 100000000
theorem Rsmall.u {st : Rd} (h : Rsmall st) : Rsmall (rdU st).2 := by
 intro bs hb
 cases st with
 | none => simp [rdU] at hb
 | some b =>
  have := h b rfl
  simp only [rdU] at hb
  split at hb
  ·cases hb; simp; omega
  ·cases hb
theorem Rsmall.t {st : Rd} (h : Rsmall st) : Rsmall (rdT st).2 := by
 intro bs hb
 cases st with
 | none => simp [rdT] at hb
 | some b =>
  have := h b rfl
  simp only [rdT] at hb
  split at hb
  ·split at hb
   ·cases hb; simp; omega
   ·cases hb
  ·cases hb
theorem Rsmall.n {st st' : Rd} {most n : Nat} (h : Rsmall st) (hn : rdN most st = some (n, st')) : Rsmall st' := by
 obtain ⟨h1, _⟩ := rdN_dec hn
 have := h.u
 rw [h1] at this
 exact this
theorem num_box {w : World} {lo p : Nat} {st : Rd} (h : RdAt w lo p st) : RdAt (w.alloc (.cells #[.pointer (some ⟨p, 0, none⟩)] 117)) lo p st := h.below ((Below.refl _ w).alloc (Nat.le_refl _) _)
theorem num_fr {w w2 : World} {lo p : Nat} {o : Obj} {st : Rd} (h : RStep (w.alloc o) lo p w2 st) : RStep w lo p w2 st := ⟨((Fr.refl (S1 p) w).alloc o).trans h.fr, h.at_⟩
set_option maxRecDepth 100000 in
set_option maxHeartbeats 1000000 in
theorem rnum_yes (lo p most n : Nat) (st st' : Rd) (w : World) (h : RdAt w lo p st) (hs : Rsmall st) (hm : most ≤ 9223372036854775807) (hn : rdN most st = some (n, st')) :
  Calls Tryz.prog 160 #[rdV p, .int .i64 ((most : Nat) : Int)] w fun e w' => e = .returned (.int .i64 ((n : Nat) : Int)) ∧ RStep w lo p w' st' := by
 have HU := ruint_any lo p st _ (num_box h) hs
 obtain ⟨h1, h2⟩ := rdN_dec hn
 rw [h1] at HU
 have HU := Lib.hid HU
 have hle : (n : Int) ≤ (most : Int) := by omega
 clear h h1 hn
 go_enter Tryz.func160, Tryz.ntmps160
 go_wp2_with (first
  | (go_at_call 203; refine HU.out.mono ?_; rintro e w2 ⟨rfl, hS⟩; have HS := Lib.hid (num_fr hS); clear hS)
  | (go_at_call 159; refine (need_yes _).mono ?_; rintro e w3 ⟨rfl, rfl⟩))
 go_returns
 exact ⟨rfl, HS.out⟩
set_option maxRecDepth 100000 in
set_option maxHeartbeats 1000000 in
theorem rnum_no (lo p most : Nat) (st : Rd) (w : World) (h : RdAt w lo p st) (hs : Rsmall st) (hm : most ≤ 9223372036854775807) (hn : rdN most st = none) :
  Calls Tryz.prog 160 #[rdV p, .int .i64 ((most : Nat) : Int)] w fun e w' => e = .panicked malC ∧ Fr (S1 p) w w' := by
 have HU := Lib.hid (ruint_any lo p st _ (num_box h) hs)
 have hlt : ¬ ((((rdU st).1 : Nat) : Int) ≤ (most : Int)) := by
  unfold rdN at hn
  split at hn
  ·cases hn
  ·rename_i h1; omega
 have hd : decide ((rdU st).1 ≤ most) = false := by simp; omega
 generalize (rdU st).1 = n at *
 clear h hn
 go_enter Tryz.func160, Tryz.ntmps160
 go_wp2_with (first
  | (go_at_call 203; refine HU.out.mono ?_; rintro e w2 ⟨rfl, hS⟩; have HS := Lib.hid (num_fr hS); clear hS)
  | (go_at_call 159; refine (need_no _).mono ?_; rintro e w3 ⟨rfl, rfl⟩))
 exact ⟨rfl, rfl, HS.out.fr⟩
set_option maxRecDepth 100000 in
set_option maxHeartbeats 1000000 in
theorem rbal_yes (lo p ro no : Nat) (st st1 st2 : Rd) (w : World) (h : RdAt w lo p st) (hs : Rsmall st) (h1 : rdN 1073741824 st = some (ro, st1)) (h2 : rdN 6 st1 = some (no, st2)) :
  Calls Tryz.prog 158 #[rdV p] w fun e w' => e = .returned (balV ro no) ∧ RStep w lo p w' st2 := by
 have hb1 : Below w.heap.size w ((w.alloc (.cells #[.pointer (some ⟨p, 0, none⟩)] 117)).alloc (.cells #[.int .i64 0, .int .i64 0] 24)) := ((Below.refl _ w).alloc (Nat.le_refl _) _).alloc (by simp) _
 have HR := Lib.hid (rnum_yes lo p 1073741824 ro st st1 _ (h.below hb1) hs (by omega) h1)
 have hz := h.lt
 have hb0 := (Blk.new w 117 #[.pointer (some ⟨p, 0, none⟩)]).alloc (.cells #[.int .i64 0, .int .i64 0] 24)
 have hb2 := blk_new1 w (.cells #[.pointer (some ⟨p, 0, none⟩)] 117) 24 #[.int .i64 0, .int .i64 0]
 have hs1 := hs.n h1
 have HB0 := Lib.hid hb0
 have HB2 := Lib.hid hb2
 have HF1 := Lib.hid (Fr.of_below hb1 : Fr (S1 p) _ _)
 clear h hb1 h1 hb0 hb2
 go_enter Tryz.func158, Tryz.ntmps158
 go_wp2_with (go_at_call 160; refine HR.out.mono ?_; rintro e w2 ⟨rfl, hS⟩; have hc := (HB0.out.fr hS.fr (fun e => by have e : w.heap.size = p := e; omega)).cell (i := 0) rfl; have hr := HB2.out.fr hS.fr (fun e => by have e : w.heap.size + 1 = p := e; omega); have HS := Lib.hid hS; have HRR := Lib.hid hr; clear hS hr HR)
 refine (rnum_yes lo p 6 no st1 st2 w2 HS.out.at_ hs1 (by omega) h2).mono ?_
 rintro e w3 ⟨rfl, hT⟩
 have HT := Lib.hid hT
 have hr3 := HRR.out.fr hT.fr (fun e => by have e : w.heap.size + 1 = p := e; omega)
 have q0 := hr3.cell (i := 0) (v := .int .i64 0) rfl
 have q1 := hr3.cell (i := 1) (v := .int .i64 0) rfl
 have f0 := hr3.frozen 0
 have f1 := hr3.frozen 1
 have HR3 := Lib.hid hr3
 clear hT hr3 hc
 go_wp2_with fail
 refine bodyPost_ret (v := balV ro no) (by simp [results, Tryz.results158, go_sem, q0, q1, f0, f1]; try rfl) rfl ?_
 have hfs : Fr (S1 (w.heap.size + 1)) w3 ((w3.setCell ⟨w.heap.size + 1, 0, none⟩ (.int .i64 (ro : Int))).setCell ⟨w.heap.size + 1, 1, none⟩ (.int .i64 (no : Int))) := (fr_set w3 _ 0 _).trans (fr_set _ _ 1 _)
 have hlo := HT.out.at_.lo
 refine ⟨rfl, ((HF1.out.trans HS.out.fr).trans HT.out.fr).trans' hfs (fun i hi e => ?_), HT.out.at_.fr hfs (fun i h1 h2 e => ?_)⟩
 ·have e : i = w.heap.size + 1 := e
  omega
 ·have e : i = w.heap.size + 1 := e
  omega
set_option maxRecDepth 100000 in
set_option maxHeartbeats 1000000 in
theorem rbal_no1 (lo p : Nat) (st : Rd) (w : World) (h : RdAt w lo p st) (hs : Rsmall st) (h1 : rdN 1073741824 st = none) :
  Calls Tryz.prog 158 #[rdV p] w fun e w' => e = .panicked malC ∧ Fr (S1 p) w w' := by
 have hb1 : Below w.heap.size w ((w.alloc (.cells #[.pointer (some ⟨p, 0, none⟩)] 117)).alloc (.cells #[.int .i64 0, .int .i64 0] 24)) := ((Below.refl _ w).alloc (Nat.le_refl _) _).alloc (by simp) _
 have HR := Lib.hid (rnum_no lo p 1073741824 st _ (h.below hb1) hs (by omega) h1)
 have HF1 := Lib.hid (Fr.of_below hb1 : Fr (S1 p) _ _)
 clear h hb1 h1
 go_enter Tryz.func158, Tryz.ntmps158
 go_wp2_with (go_at_call 160; refine HR.out.mono ?_; rintro e w2 ⟨rfl, hS⟩; have HS := Lib.hid hS; clear hS HR)
 exact ⟨rfl, rfl, HF1.out.trans HS.out⟩
set_option maxRecDepth 100000 in
set_option maxHeartbeats 1000000 in
theorem rbal_no2 (lo p ro : Nat) (st st1 : Rd) (w : World) (h : RdAt w lo p st) (hs : Rsmall st) (h1 : rdN 1073741824 st = some (ro, st1)) (h2 : rdN 6 st1 = none) :
  Calls Tryz.prog 158 #[rdV p] w fun e w' => e = .panicked malC ∧ Fr (S1 p) w w' := by
 have hb1 : Below w.heap.size w ((w.alloc (.cells #[.pointer (some ⟨p, 0, none⟩)] 117)).alloc (.cells #[.int .i64 0, .int .i64 0] 24)) := ((Below.refl _ w).alloc (Nat.le_refl _) _).alloc (by simp) _
 have HR := Lib.hid (rnum_yes lo p 1073741824 ro st st1 _ (h.below hb1) hs (by omega) h1)
 have hz := h.lt
 have hb0 := (Blk.new w 117 #[.pointer (some ⟨p, 0, none⟩)]).alloc (.cells #[.int .i64 0, .int .i64 0] 24)
 have hs1 := hs.n h1
 have HB0 := Lib.hid hb0
 have HF1 := Lib.hid (Fr.of_below hb1 : Fr (S1 p) _ _)
 clear h hb1 h1 hb0
 go_enter Tryz.func158, Tryz.ntmps158
 go_wp2_with (go_at_call 160; refine HR.out.mono ?_; rintro e w2 ⟨rfl, hS⟩; have hc := (HB0.out.fr hS.fr (fun e => by have e : w.heap.size = p := e; omega)).cell (i := 0) rfl; have HS := Lib.hid hS; clear hS HR)
 refine (rnum_no lo p 6 st1 w2 HS.out.at_ hs1 (by omega) h2).mono ?_
 rintro e w3 ⟨rfl, hT⟩
 have HT := Lib.hid hT
 clear hT
 go_wp2_with fail
 exact ⟨rfl, rfl, (HF1.out.trans HS.out.fr).trans HT.out⟩
end Go.Proofs.YtlfikhblmbidmaaGreatDoor
namespace Go.Proofs.YtlfikhblmbidmaaGreatDoor
open Go.RowKit Go.Maps
set_option maxRecDepth 100000 in
set_option maxHeartbeats 1000000 in
theorem catch_idle (o : Nat) (w : World) :
  CallsD Tryz.prog 154 #[.pointer (some ⟨o, 0, none⟩)] .returning w fun e u' w' => e = .returned (.tuple #[]) ∧ u' = .returning ∧ w' = w := by
 refine callsD_of_wpS Tryz.func154 rfl fun c₀ cs hu => ?_
 apply wpS_seq
 apply wpS_region
 simp [wpOpsS, go_sem, recoverD, hu, Tryz.ntmps154, Exit.thenS]
 refine wpS_of_wp ?_
 go_wp2
 cases c₀
 simp_all [bodyPostS, results, Tryz.results154]
def malC2 : List PanicEntry := [{ v := .iface 203 (.agg #[]), recovered := true }]
set_option maxRecDepth 100000 in
set_option maxHeartbeats 1000000 in
theorem catch_mal (o : Nat) (b : Bool) (w : World) (hB : Blk w o 4 #[.bool b]) :
  CallsD Tryz.prog 154 #[.pointer (some ⟨o, 0, none⟩)] (.panicking malC) w fun e u' w' => e = .returned (.tuple #[]) ∧ u' = .panicking malC2 ∧ Blk w' o 4 #[.bool false] ∧ Fr (S1 o) w w' := by
 refine callsD_of_wpS Tryz.func154 rfl fun c₀ cs hu => ?_
 apply wpS_seq
 apply wpS_region
 simp [wpOpsS, go_sem, recoverD, hu, malC, Tryz.ntmps154, Exit.thenS]
 refine wpS_of_wp ?_
 have hta : ∀ w, (Instr.typeAssert (.iface 203 (.agg #[])) 20 203 true).run Tryz.prog w = .ok (.tuple #[.agg #[], .bool true]) w := fun _ => by kernel_rfl
 have hbn := hB.alloc (.cells #[] 203)
 have hc := hbn.cell (i := 0) rfl
 have hf := hbn.frozen 0
 have HBN := Lib.hid hbn
 clear hB hbn
 go_wp2
 have h1 : Blk ((w.alloc (.cells #[] 203)).setCell ⟨o, 0, none⟩ (.bool false)) o 4 #[.bool false] := HBN.out.set 0 _
 have h2 : Fr (S1 o) w ((w.alloc (.cells #[] 203)).setCell ⟨o, 0, none⟩ (.bool false)) := ((Fr.refl (S1 o) w).alloc _).trans (fr_set _ o 0 _)
 simp [bodyPostS, results, Tryz.results154, hu, malC2]
 exact ⟨h1, h2⟩
end Go.Proofs.YtlfikhblmbidmaaGreatDoor
namespace Go.Proofs.YtlfikhblmbidmaaGreatDoor
open Go.RowKit Go.Maps
def Sor (p X : Nat) : Nat → Prop := fun i => i = p ∨ i = X
set_option maxRecDepth 100000 in
set_option maxHeartbeats 2000000 in
theorem readingP_ret (X : Nat) (v : Value) (bs : List UInt8) (w : World) (st : Rd) (R : World → Prop) (hX : X < w.heap.size) (hv : BsIn w v bs) (hl : bs.length ≤ 100000000)
  (hread : ∀ W p, Below w.heap.size w W → RdAt W (w.heap.size + 1) p (some bs) → Calls Tryz.prog 165 #[rdV p, .pointer (some ⟨X, 0, none⟩)] W fun e W' => e = .returned (.tuple #[]) ∧ RdAt W' (w.heap.size + 1) p st ∧ Fr (Sor p X) W W' ∧ R W')
  (hR : ∀ A B, Fr (S1 w.heap.size) A B → R A → R B) :
  Calls Tryz.prog 71 #[v, .func (.func 165) #[] #[.pointer (some ⟨X, 0, none⟩)]] w fun e w' => e = .returned (.bool (endE st == 0)) ∧ Fr (S1 X) w w' ∧ R w' := by
 have hmf : ∀ (fn : Fn) (first cap : Array Value) (w : World), (Instr.makeFunc fn first cap).run Tryz.prog w = .ok (.func fn first cap) w := fun _ _ _ _ => rfl
 have hb1 : Below w.heap.size w (w.alloc (.cells #[.bool false] 4)) := (Below.refl _ w).alloc (Nat.le_refl _) _
 have HRD := Lib.hid (rread_any v bs _ (hv.below hb1) hl)
 have HB1 := Lib.hid hb1
 have hB := Blk.new w 4 #[.bool false]
 have HBK := Lib.hid hB
 have HREAD := Lib.hid hread
 have HRR := Lib.hid hR
 clear hread hR hb1 hB hv
 go_enter_defers Tryz.func71, Tryz.ntmps71
 go_wp2_with (first
  | (go_at_call 155; refine HRD.out.mono ?_; rintro e w2 ⟨p, rfl, h2, b2⟩; rw [World.size_alloc] at h2 b2; have H2 := Lib.hid h2; have HB2 := Lib.hid b2; clear h2 b2 HRD))
 have hlo := H2.out.lo
 have hpl := H2.out.lt
 have hz2 := HB2.out.size
 rw [World.size_alloc] at hz2
 have hb3 : Below w2.heap.size w2 (w2.alloc (.cells #[.pointer (some ⟨p, 0, none⟩)] 117)) := (Below.refl _ _).alloc (Nat.le_refl _) _
 have hbw : Below w.heap.size w (w2.alloc (.cells #[.pointer (some ⟨p, 0, none⟩)] 117)) := (HB1.out.trans (HB2.out.mono (by omega))).trans (hb3.mono (by omega))
 have hbox : Blk (w2.alloc (.cells #[.pointer (some ⟨p, 0, none⟩)] 117)) w2.heap.size 117 #[.pointer (some ⟨p, 0, none⟩)] := Blk.new _ _ _
 have hok : Blk (w2.alloc (.cells #[.pointer (some ⟨p, 0, none⟩)] 117)) w.heap.size 4 #[.bool false] := (HBK.out.of_block (HB2.out.block _ (by omega))).alloc _
 refine (HREAD.out _ p hbw (H2.out.below hb3)).mono ?_
 rintro e w3 ⟨rfl, h3, f3, r3⟩
 have hbox3 := hbox.fr f3 (fun e => by rcases e with e | e <;> omega)
 have hok3 := hok.fr f3 (fun e => by rcases e with e | e <;> omega)
 have hc0 := hbox3.cell (i := 0) rfl
 have hc1 := hok3.cell (i := 0) rfl
 have hf1 := hok3.frozen 0
 have HE := Lib.hid (rend_any _ p st w3 h3)
 have HOK := Lib.hid hok3
 have HF3 := Lib.hid f3
 have HR3 := Lib.hid r3
 have HBW := Lib.hid hbw
 clear h3 f3 r3 hbw hok3 hok hbox hbox3 hb3
 obtain ⟨E, hE⟩ : ∃ E, endE st = E := ⟨_, rfl⟩
 rw [hE] at HE
 have HEE := Lib.hid hE
 clear hE
 go_wp2_with (go_at_call 156; refine HE.out.mono ?_; rintro e w4 ⟨rfl, rfl⟩)
 have hfin := HOK.out.set 0 (.bool (E == 0))
 have q := hfin.cell (i := 0) (v := .bool (E == 0)) rfl
 have hfr : Fr (S1 X) w (w3.setCell ⟨w.heap.size, 0, none⟩ (.bool (E == 0))) := ((Fr.of_below HBW.out).trans' HF3.out (fun i hi e => by
  rcases e with e | e
  ·omega
  ·exact e)).trans' (fr_set w3 w.heap.size 0 _) (fun i hi e => by have e : i = w.heap.size := e; omega)
 have hrf := HRR.out _ _ (fr_set w3 w.heap.size 0 (.bool (E == 0))) HR3.out
 rw [HEE.out]
 refine leaves_cons (f := 154) (args := #[.pointer (some ⟨w.heap.size, 0, none⟩)]) (by simp) (by simp [go_sem]) ?_
 refine (catch_idle w.heap.size _).mono ?_
 rintro e u' w'' ⟨rfl, rfl, rfl⟩
 simp [Leaves, settle, results, Tryz.results71, go_sem, q]
 exact ⟨hfr, hrf⟩
set_option maxRecDepth 100000 in
set_option maxHeartbeats 2000000 in
theorem readingP_mal (X : Nat) (v : Value) (bs : List UInt8) (w : World) (hX : X < w.heap.size) (hv : BsIn w v bs) (hl : bs.length ≤ 100000000)
  (hread : ∀ W p, Below w.heap.size w W → RdAt W (w.heap.size + 1) p (some bs) → Calls Tryz.prog 165 #[rdV p, .pointer (some ⟨X, 0, none⟩)] W fun e W' => e = .panicked malC ∧ Fr (Sor p X) W W') :
  Calls Tryz.prog 71 #[v, .func (.func 165) #[] #[.pointer (some ⟨X, 0, none⟩)]] w fun e w' => e = .returned (.bool false) ∧ Fr (S1 X) w w' := by
 have hmf : ∀ (fn : Fn) (first cap : Array Value) (w : World), (Instr.makeFunc fn first cap).run Tryz.prog w = .ok (.func fn first cap) w := fun _ _ _ _ => rfl
 have hb1 : Below w.heap.size w (w.alloc (.cells #[.bool false] 4)) := (Below.refl _ w).alloc (Nat.le_refl _) _
 have HRD := Lib.hid (rread_any v bs _ (hv.below hb1) hl)
 have HB1 := Lib.hid hb1
 have hB := Blk.new w 4 #[.bool false]
 have HBK := Lib.hid hB
 have HREAD := Lib.hid hread
 clear hread hb1 hB hv
 go_enter_defers Tryz.func71, Tryz.ntmps71
 go_wp2_with (first
  | (go_at_call 155; refine HRD.out.mono ?_; rintro e w2 ⟨p, rfl, h2, b2⟩; rw [World.size_alloc] at h2 b2; have H2 := Lib.hid h2; have HB2 := Lib.hid b2; clear h2 b2 HRD))
 have hlo := H2.out.lo
 have hpl := H2.out.lt
 have hz2 := HB2.out.size
 rw [World.size_alloc] at hz2
 have hb3 : Below w2.heap.size w2 (w2.alloc (.cells #[.pointer (some ⟨p, 0, none⟩)] 117)) := (Below.refl _ _).alloc (Nat.le_refl _) _
 have hbw : Below w.heap.size w (w2.alloc (.cells #[.pointer (some ⟨p, 0, none⟩)] 117)) := (HB1.out.trans (HB2.out.mono (by omega))).trans (hb3.mono (by omega))
 have hok : Blk (w2.alloc (.cells #[.pointer (some ⟨p, 0, none⟩)] 117)) w.heap.size 4 #[.bool false] := (HBK.out.of_block (HB2.out.block _ (by omega))).alloc _
 refine (HREAD.out _ p hbw (H2.out.below hb3)).mono ?_
 rintro e w3 ⟨rfl, f3⟩
 have hok3 := hok.fr f3 (fun e => by rcases e with e | e <;> omega)
 have HOK := Lib.hid hok3
 have HF3 := Lib.hid f3
 have HBW := Lib.hid hbw
 clear f3 hbw hok3 hok hb3
 go_wp2_with fail
 refine leaves_cons (f := 154) (args := #[.pointer (some ⟨w.heap.size, 0, none⟩)]) (by simp) (by simp [go_sem]) ?_
 refine (catch_mal w.heap.size false _ HOK.out).mono ?_
 rintro e u' w'' ⟨rfl, rfl, hok4, f4⟩
 have q := hok4.cell (i := 0) (v := .bool false) rfl
 have hfr : Fr (S1 X) w w'' := ((Fr.of_below HBW.out).trans' HF3.out (fun i hi e => by
  rcases e with e | e
  ·omega
  ·exact e)).trans' f4 (fun i hi e => by have e : i = w.heap.size := e; omega)
 simp [Leaves, settle, results, Tryz.results71, go_sem, q, malC2]
 exact hfr
end Go.Proofs.YtlfikhblmbidmaaGreatDoor
namespace Go.Proofs.YtlfikhblmbidmaaGreatDoor
open Go.RowKit Go.Maps
structure PI (w0 : World) (lo p X : Nat) (W : World) (cs : Array Value) (st : Rd) : Prop where
 box : Blk W w0.heap.size 117 #[.pointer (some ⟨p, 0, none⟩)]
 x : Blk W X 121 cs
 rd : RdAt W lo p st
 fr : Fr (Sor p X) w0 W
structure PB (w0 : World) (lo p X : Nat) : Prop where
 a : X < lo
 b : lo ≤ p
 c : p < w0.heap.size
namespace PI
variable {w0 W W' : World} {lo p X : Nat} {cs : Array Value} {st st' : Rd}
theorem start (hB : PB w0 lo p X) (hx : Blk w0 X 121 cs) (hr : RdAt w0 lo p st) : PI w0 lo p X (w0.alloc (.cells #[.pointer (some ⟨p, 0, none⟩)] 117)) cs st :=
 ⟨Blk.new _ _ _, hx.alloc _, num_box hr, (Fr.refl _ _).alloc _⟩
theorem step (h : PI w0 lo p X W cs st) (hB : PB w0 lo p X) (k : RStep W lo p W' st') : PI w0 lo p X W' cs st' := by
 obtain ⟨b1, b2, b3⟩ := hB
 exact ⟨h.box.fr k.fr (fun e => by have e : w0.heap.size = p := e; omega), h.x.fr k.fr (fun e => by have e : X = p := e; omega), k.at_, h.fr.trans' k.fr (fun i _ e => .inl e)⟩
theorem halt (h : PI w0 lo p X W cs st) (k : Fr (S1 p) W W') : Fr (Sor p X) w0 W' := h.fr.trans' k (fun i _ e => .inl e)
theorem set (h : PI w0 lo p X W cs st) (hB : PB w0 lo p X) (i : Nat) (v : Value) : PI w0 lo p X (W.setCell ⟨X, i, none⟩ v) (cs.setIfInBounds i v) st := by
 obtain ⟨b1, b2, b3⟩ := hB
 have f := fr_set W X i v
 exact ⟨h.box.fr f (fun e => by have e : w0.heap.size = X := e; omega), h.x.set i v, h.rd.fr f (fun j h1 h2 e => by have e : j = X := e; omega), h.fr.trans' f (fun i _ e => .inr e)⟩
theorem below (h : PI w0 lo p X W cs st) (k : Below W.heap.size W W') : PI w0 lo p X W' cs st :=
 ⟨h.box.of_block (k.block _ h.box.lt), h.x.of_block (k.block _ h.x.lt), h.rd.below k, h.fr.trans' (Fr.of_below k) (fun i _ e => e)⟩
end PI
abbrev recC (k ro no sl : Int) (s : ByteArray) : Array Value := #[.int .i64 k, .int .i64 ro, .int .i64 no, .int .i64 sl, .string s]
abbrev recZ : Array Value := recC 0 0 0 0 ⟨#[]⟩
theorem chd_yes {ro no : Nat} (h1 : 1 ≤ ro) (h2 : ro ≤ 1073741824) (h3 : no ≤ 6) : chdE false ro no = 0 := by
 have := (okB_iff (ro : Int) (no : Int)).2 (by omega)
 simp [chdE, this]
theorem chd_no {no : Nat} : chdE false 0 no = 2 := by
 have : okB 0 (no : Int) = false := by
  cases h : okB 0 (no : Int) with
  | false => rfl
  | true => have := (okB_iff _ _).1 h; omega
 simp [chdE, this]
set_option maxRecDepth 100000 in
set_option maxHeartbeats 2000000 in
theorem par_n (lo p X : Nat) (bs : List UInt8) (w : World) (hB : PB w lo p X) (hx : Blk w X 121 recZ) (hr : RdAt w lo p (some bs)) (hs : Rsmall (some bs)) (h1 : rdN 3 (some bs) = none) :
  Calls Tryz.prog 165 #[rdV p, .pointer (some ⟨X, 0, none⟩)] w fun e w' => e = .panicked malC ∧ Fr (Sor p X) w w' := by
 have H1 := Lib.hid h1
 clear h1
 have hP := PI.start hB hx hr
 have HBB := Lib.hid hB
 have q := hP.box.cell (i := 0) (v := .pointer (some ⟨p, 0, none⟩)) rfl
 have x0 := hP.x.cell (i := 0) (v := .int .i64 0) rfl
 have g0 := hP.x.frozen 0
 have x1 := hP.x.cell (i := 1) (v := .int .i64 0) rfl
 have g1 := hP.x.frozen 1
 have x2 := hP.x.cell (i := 2) (v := .int .i64 0) rfl
 have g2 := hP.x.frozen 2
 have x3 := hP.x.cell (i := 3) (v := .int .i64 0) rfl
 have g3 := hP.x.frozen 3
 have x4 := hP.x.cell (i := 4) (v := .string ⟨#[]⟩) rfl
 have g4 := hP.x.frozen 4
 have HP := Lib.hid hP
 clear hP
 clear hx hr hB
 go_enter Tryz.func165, Tryz.ntmps165
 go_wp2_with fail
 refine (rnum_no lo p 3 (some bs) _ HP.out.rd hs (by omega) H1.out).mono ?_
 rintro e wz ⟨rfl, hF⟩
 have HF := Lib.hid (HP.out.halt hF)
 clear hF
 clear q x0 x1 x2 x3 x4 g0 g1 g2 g3 g4
 go_wp2_with fail
 exact ⟨rfl, rfl, HF.out⟩
set_option maxRecDepth 100000 in
set_option maxHeartbeats 2000000 in
theorem par_0 (lo p X : Nat) (st1 : Rd) (bs : List UInt8) (w : World) (hB : PB w lo p X) (hx : Blk w X 121 recZ) (hr : RdAt w lo p (some bs)) (hs : Rsmall (some bs)) (h1 : rdN 3 (some bs) = some (0, st1)) :
  Calls Tryz.prog 165 #[rdV p, .pointer (some ⟨X, 0, none⟩)] w fun e w' => e = .panicked malC ∧ Fr (Sor p X) w w' := by
 have hs1 := hs.n h1
 have H1 := Lib.hid h1
 clear h1
 have hP := PI.start hB hx hr
 have HBB := Lib.hid hB
 have q := hP.box.cell (i := 0) (v := .pointer (some ⟨p, 0, none⟩)) rfl
 have x0 := hP.x.cell (i := 0) (v := .int .i64 0) rfl
 have g0 := hP.x.frozen 0
 have x1 := hP.x.cell (i := 1) (v := .int .i64 0) rfl
 have g1 := hP.x.frozen 1
 have x2 := hP.x.cell (i := 2) (v := .int .i64 0) rfl
 have g2 := hP.x.frozen 2
 have x3 := hP.x.cell (i := 3) (v := .int .i64 0) rfl
 have g3 := hP.x.frozen 3
 have x4 := hP.x.cell (i := 4) (v := .string ⟨#[]⟩) rfl
 have g4 := hP.x.frozen 4
 have HP := Lib.hid hP
 clear hP
 clear hx hr hB
 go_enter Tryz.func165, Tryz.ntmps165
 go_wp2_with fail
 refine (rnum_yes lo p 3 0 (some bs) st1 _ HP.out.rd hs (by omega) H1.out).mono ?_
 rintro e w1 ⟨rfl, hS⟩
 have hP := HP.out.step HBB.out hS
 clear hS HP
 clear q x0 x1 x2 x3 x4 g0 g1 g2 g3 g4
 have q := hP.box.cell (i := 0) (v := .pointer (some ⟨p, 0, none⟩)) rfl
 have x0 := hP.x.cell (i := 0) (v := .int .i64 0) rfl
 have g0 := hP.x.frozen 0
 have x1 := hP.x.cell (i := 1) (v := .int .i64 0) rfl
 have g1 := hP.x.frozen 1
 have x2 := hP.x.cell (i := 2) (v := .int .i64 0) rfl
 have g2 := hP.x.frozen 2
 have x3 := hP.x.cell (i := 3) (v := .int .i64 0) rfl
 have g3 := hP.x.frozen 3
 have x4 := hP.x.cell (i := 4) (v := .string ⟨#[]⟩) rfl
 have g4 := hP.x.frozen 4
 have HP := Lib.hid hP
 clear hP
 go_wp2_with fail
 have hP := HP.out.set HBB.out 0 (.int .i64 0)
 clear HP
 clear q x0 x1 x2 x3 x4 g0 g1 g2 g3 g4
 have q := hP.box.cell (i := 0) (v := .pointer (some ⟨p, 0, none⟩)) rfl
 have x0 := hP.x.cell (i := 0) (v := .int .i64 0) rfl
 have g0 := hP.x.frozen 0
 have x1 := hP.x.cell (i := 1) (v := .int .i64 0) rfl
 have g1 := hP.x.frozen 1
 have x2 := hP.x.cell (i := 2) (v := .int .i64 0) rfl
 have g2 := hP.x.frozen 2
 have x3 := hP.x.cell (i := 3) (v := .int .i64 0) rfl
 have g3 := hP.x.frozen 3
 have x4 := hP.x.cell (i := 4) (v := .string ⟨#[]⟩) rfl
 have g4 := hP.x.frozen 4
 have HP := Lib.hid hP
 clear hP
 refine (need_no _).mono ?_
 rintro e wn ⟨rfl, rfl⟩
 go_wp2_with fail
 exact ⟨rfl, rfl, HP.out.fr⟩
set_option maxRecDepth 100000 in
set_option maxHeartbeats 2000000 in
theorem par_1b1 (lo p X : Nat) (st1 : Rd) (bs : List UInt8) (w : World) (hB : PB w lo p X) (hx : Blk w X 121 recZ) (hr : RdAt w lo p (some bs)) (hs : Rsmall (some bs)) (h1 : rdN 3 (some bs) = some (1, st1)) (h2 : rdN 1073741824 st1 = none) :
  Calls Tryz.prog 165 #[rdV p, .pointer (some ⟨X, 0, none⟩)] w fun e w' => e = .panicked malC ∧ Fr (Sor p X) w w' := by
 have hs1 := hs.n h1
 have H1 := Lib.hid h1
 clear h1
 have H2 := Lib.hid h2
 clear h2
 have hP := PI.start hB hx hr
 have HBB := Lib.hid hB
 have q := hP.box.cell (i := 0) (v := .pointer (some ⟨p, 0, none⟩)) rfl
 have x0 := hP.x.cell (i := 0) (v := .int .i64 0) rfl
 have g0 := hP.x.frozen 0
 have x1 := hP.x.cell (i := 1) (v := .int .i64 0) rfl
 have g1 := hP.x.frozen 1
 have x2 := hP.x.cell (i := 2) (v := .int .i64 0) rfl
 have g2 := hP.x.frozen 2
 have x3 := hP.x.cell (i := 3) (v := .int .i64 0) rfl
 have g3 := hP.x.frozen 3
 have x4 := hP.x.cell (i := 4) (v := .string ⟨#[]⟩) rfl
 have g4 := hP.x.frozen 4
 have HP := Lib.hid hP
 clear hP
 clear hx hr hB
 go_enter Tryz.func165, Tryz.ntmps165
 go_wp2_with fail
 refine (rnum_yes lo p 3 1 (some bs) st1 _ HP.out.rd hs (by omega) H1.out).mono ?_
 rintro e w1 ⟨rfl, hS⟩
 have hP := HP.out.step HBB.out hS
 clear hS HP
 clear q x0 x1 x2 x3 x4 g0 g1 g2 g3 g4
 have q := hP.box.cell (i := 0) (v := .pointer (some ⟨p, 0, none⟩)) rfl
 have x0 := hP.x.cell (i := 0) (v := .int .i64 0) rfl
 have g0 := hP.x.frozen 0
 have x1 := hP.x.cell (i := 1) (v := .int .i64 0) rfl
 have g1 := hP.x.frozen 1
 have x2 := hP.x.cell (i := 2) (v := .int .i64 0) rfl
 have g2 := hP.x.frozen 2
 have x3 := hP.x.cell (i := 3) (v := .int .i64 0) rfl
 have g3 := hP.x.frozen 3
 have x4 := hP.x.cell (i := 4) (v := .string ⟨#[]⟩) rfl
 have g4 := hP.x.frozen 4
 have HP := Lib.hid hP
 clear hP
 go_wp2_with fail
 have hP := HP.out.set HBB.out 0 (.int .i64 1)
 clear HP
 clear q x0 x1 x2 x3 x4 g0 g1 g2 g3 g4
 have q := hP.box.cell (i := 0) (v := .pointer (some ⟨p, 0, none⟩)) rfl
 have x0 := hP.x.cell (i := 0) (v := .int .i64 1) rfl
 have g0 := hP.x.frozen 0
 have x1 := hP.x.cell (i := 1) (v := .int .i64 0) rfl
 have g1 := hP.x.frozen 1
 have x2 := hP.x.cell (i := 2) (v := .int .i64 0) rfl
 have g2 := hP.x.frozen 2
 have x3 := hP.x.cell (i := 3) (v := .int .i64 0) rfl
 have g3 := hP.x.frozen 3
 have x4 := hP.x.cell (i := 4) (v := .string ⟨#[]⟩) rfl
 have g4 := hP.x.frozen 4
 have HP := Lib.hid hP
 clear hP
 refine (need_yes _).mono ?_
 rintro e wn ⟨rfl, rfl⟩
 go_wp2_with fail
 refine (rbal_no1 lo p st1 _ HP.out.rd hs1 H2.out).mono ?_
 rintro e wz ⟨rfl, hF⟩
 have HF := Lib.hid (HP.out.halt hF)
 clear hF
 clear q x0 x1 x2 x3 x4 g0 g1 g2 g3 g4
 go_wp2_with fail
 exact ⟨rfl, rfl, HF.out⟩
set_option maxRecDepth 100000 in
set_option maxHeartbeats 2000000 in
theorem par_1b2 (lo p X ro : Nat) (st1 st2 : Rd) (bs : List UInt8) (w : World) (hB : PB w lo p X) (hx : Blk w X 121 recZ) (hr : RdAt w lo p (some bs)) (hs : Rsmall (some bs)) (h1 : rdN 3 (some bs) = some (1, st1)) (h2 : rdN 1073741824 st1 = some (ro, st2)) (h3 : rdN 6 st2 = none) :
  Calls Tryz.prog 165 #[rdV p, .pointer (some ⟨X, 0, none⟩)] w fun e w' => e = .panicked malC ∧ Fr (Sor p X) w w' := by
 have hs1 := hs.n h1
 have H1 := Lib.hid h1
 clear h1
 have hs2 := hs1.n h2
 have hro2 := (rdN_dec h2).2
 have H2 := Lib.hid h2
 clear h2
 have H3 := Lib.hid h3
 clear h3
 have hP := PI.start hB hx hr
 have HBB := Lib.hid hB
 have q := hP.box.cell (i := 0) (v := .pointer (some ⟨p, 0, none⟩)) rfl
 have x0 := hP.x.cell (i := 0) (v := .int .i64 0) rfl
 have g0 := hP.x.frozen 0
 have x1 := hP.x.cell (i := 1) (v := .int .i64 0) rfl
 have g1 := hP.x.frozen 1
 have x2 := hP.x.cell (i := 2) (v := .int .i64 0) rfl
 have g2 := hP.x.frozen 2
 have x3 := hP.x.cell (i := 3) (v := .int .i64 0) rfl
 have g3 := hP.x.frozen 3
 have x4 := hP.x.cell (i := 4) (v := .string ⟨#[]⟩) rfl
 have g4 := hP.x.frozen 4
 have HP := Lib.hid hP
 clear hP
 clear hx hr hB
 go_enter Tryz.func165, Tryz.ntmps165
 go_wp2_with fail
 refine (rnum_yes lo p 3 1 (some bs) st1 _ HP.out.rd hs (by omega) H1.out).mono ?_
 rintro e w1 ⟨rfl, hS⟩
 have hP := HP.out.step HBB.out hS
 clear hS HP
 clear q x0 x1 x2 x3 x4 g0 g1 g2 g3 g4
 have q := hP.box.cell (i := 0) (v := .pointer (some ⟨p, 0, none⟩)) rfl
 have x0 := hP.x.cell (i := 0) (v := .int .i64 0) rfl
 have g0 := hP.x.frozen 0
 have x1 := hP.x.cell (i := 1) (v := .int .i64 0) rfl
 have g1 := hP.x.frozen 1
 have x2 := hP.x.cell (i := 2) (v := .int .i64 0) rfl
 have g2 := hP.x.frozen 2
 have x3 := hP.x.cell (i := 3) (v := .int .i64 0) rfl
 have g3 := hP.x.frozen 3
 have x4 := hP.x.cell (i := 4) (v := .string ⟨#[]⟩) rfl
 have g4 := hP.x.frozen 4
 have HP := Lib.hid hP
 clear hP
 go_wp2_with fail
 have hP := HP.out.set HBB.out 0 (.int .i64 1)
 clear HP
 clear q x0 x1 x2 x3 x4 g0 g1 g2 g3 g4
 have q := hP.box.cell (i := 0) (v := .pointer (some ⟨p, 0, none⟩)) rfl
 have x0 := hP.x.cell (i := 0) (v := .int .i64 1) rfl
 have g0 := hP.x.frozen 0
 have x1 := hP.x.cell (i := 1) (v := .int .i64 0) rfl
 have g1 := hP.x.frozen 1
 have x2 := hP.x.cell (i := 2) (v := .int .i64 0) rfl
 have g2 := hP.x.frozen 2
 have x3 := hP.x.cell (i := 3) (v := .int .i64 0) rfl
 have g3 := hP.x.frozen 3
 have x4 := hP.x.cell (i := 4) (v := .string ⟨#[]⟩) rfl
 have g4 := hP.x.frozen 4
 have HP := Lib.hid hP
 clear hP
 refine (need_yes _).mono ?_
 rintro e wn ⟨rfl, rfl⟩
 go_wp2_with fail
 refine (rbal_no2 lo p ro st1 st2 _ HP.out.rd hs1 H2.out H3.out).mono ?_
 rintro e wz ⟨rfl, hF⟩
 have HF := Lib.hid (HP.out.halt hF)
 clear hF
 clear q x0 x1 x2 x3 x4 g0 g1 g2 g3 g4
 go_wp2_with fail
 exact ⟨rfl, rfl, HF.out⟩
set_option maxRecDepth 100000 in
set_option maxHeartbeats 2000000 in
theorem par_1c (lo p X ro no : Nat) (st1 st2 st3 : Rd) (bs : List UInt8) (w : World) (hB : PB w lo p X) (hx : Blk w X 121 recZ) (hr : RdAt w lo p (some bs)) (hs : Rsmall (some bs)) (h1 : rdN 3 (some bs) = some (1, st1)) (h2 : rdN 1073741824 st1 = some (ro, st2)) (h3 : rdN 6 st2 = some (no, st3)) (hro : ro = 0) :
  Calls Tryz.prog 165 #[rdV p, .pointer (some ⟨X, 0, none⟩)] w fun e w' => e = .panicked malC ∧ Fr (Sor p X) w w' := by
 have hs1 := hs.n h1
 have H1 := Lib.hid h1
 clear h1
 have hs2 := hs1.n h2
 have hro2 := (rdN_dec h2).2
 have H2 := Lib.hid h2
 clear h2
 have hs3 := hs2.n h3
 have hno2 := (rdN_dec h3).2
 have H3 := Lib.hid h3
 clear h3
 subst hro
 have hP := PI.start hB hx hr
 have HBB := Lib.hid hB
 have q := hP.box.cell (i := 0) (v := .pointer (some ⟨p, 0, none⟩)) rfl
 have x0 := hP.x.cell (i := 0) (v := .int .i64 0) rfl
 have g0 := hP.x.frozen 0
 have x1 := hP.x.cell (i := 1) (v := .int .i64 0) rfl
 have g1 := hP.x.frozen 1
 have x2 := hP.x.cell (i := 2) (v := .int .i64 0) rfl
 have g2 := hP.x.frozen 2
 have x3 := hP.x.cell (i := 3) (v := .int .i64 0) rfl
 have g3 := hP.x.frozen 3
 have x4 := hP.x.cell (i := 4) (v := .string ⟨#[]⟩) rfl
 have g4 := hP.x.frozen 4
 have HP := Lib.hid hP
 clear hP
 clear hx hr hB
 go_enter Tryz.func165, Tryz.ntmps165
 go_wp2_with fail
 refine (rnum_yes lo p 3 1 (some bs) st1 _ HP.out.rd hs (by omega) H1.out).mono ?_
 rintro e w1 ⟨rfl, hS⟩
 have hP := HP.out.step HBB.out hS
 clear hS HP
 clear q x0 x1 x2 x3 x4 g0 g1 g2 g3 g4
 have q := hP.box.cell (i := 0) (v := .pointer (some ⟨p, 0, none⟩)) rfl
 have x0 := hP.x.cell (i := 0) (v := .int .i64 0) rfl
 have g0 := hP.x.frozen 0
 have x1 := hP.x.cell (i := 1) (v := .int .i64 0) rfl
 have g1 := hP.x.frozen 1
 have x2 := hP.x.cell (i := 2) (v := .int .i64 0) rfl
 have g2 := hP.x.frozen 2
 have x3 := hP.x.cell (i := 3) (v := .int .i64 0) rfl
 have g3 := hP.x.frozen 3
 have x4 := hP.x.cell (i := 4) (v := .string ⟨#[]⟩) rfl
 have g4 := hP.x.frozen 4
 have HP := Lib.hid hP
 clear hP
 go_wp2_with fail
 have hP := HP.out.set HBB.out 0 (.int .i64 1)
 clear HP
 clear q x0 x1 x2 x3 x4 g0 g1 g2 g3 g4
 have q := hP.box.cell (i := 0) (v := .pointer (some ⟨p, 0, none⟩)) rfl
 have x0 := hP.x.cell (i := 0) (v := .int .i64 1) rfl
 have g0 := hP.x.frozen 0
 have x1 := hP.x.cell (i := 1) (v := .int .i64 0) rfl
 have g1 := hP.x.frozen 1
 have x2 := hP.x.cell (i := 2) (v := .int .i64 0) rfl
 have g2 := hP.x.frozen 2
 have x3 := hP.x.cell (i := 3) (v := .int .i64 0) rfl
 have g3 := hP.x.frozen 3
 have x4 := hP.x.cell (i := 4) (v := .string ⟨#[]⟩) rfl
 have g4 := hP.x.frozen 4
 have HP := Lib.hid hP
 clear hP
 refine (need_yes _).mono ?_
 rintro e wn ⟨rfl, rfl⟩
 go_wp2_with fail
 refine (rbal_yes lo p 0 no st1 st2 st3 _ HP.out.rd hs1 H2.out H3.out).mono ?_
 rintro e wb ⟨rfl, hS⟩
 have hP := HP.out.step HBB.out hS
 clear hS HP
 clear q x0 x1 x2 x3 x4 g0 g1 g2 g3 g4
 have q := hP.box.cell (i := 0) (v := .pointer (some ⟨p, 0, none⟩)) rfl
 have x0 := hP.x.cell (i := 0) (v := .int .i64 1) rfl
 have g0 := hP.x.frozen 0
 have x1 := hP.x.cell (i := 1) (v := .int .i64 0) rfl
 have g1 := hP.x.frozen 1
 have x2 := hP.x.cell (i := 2) (v := .int .i64 0) rfl
 have g2 := hP.x.frozen 2
 have x3 := hP.x.cell (i := 3) (v := .int .i64 0) rfl
 have g3 := hP.x.frozen 3
 have x4 := hP.x.cell (i := 4) (v := .string ⟨#[]⟩) rfl
 have g4 := hP.x.frozen 4
 have HP := Lib.hid hP
 clear hP
 go_wp2_with fail
 have hP := HP.out.set HBB.out 1 (.int .i64 0)
 clear HP
 clear q x0 x1 x2 x3 x4 g0 g1 g2 g3 g4
 have q := hP.box.cell (i := 0) (v := .pointer (some ⟨p, 0, none⟩)) rfl
 have x0 := hP.x.cell (i := 0) (v := .int .i64 1) rfl
 have g0 := hP.x.frozen 0
 have x1 := hP.x.cell (i := 1) (v := .int .i64 0) rfl
 have g1 := hP.x.frozen 1
 have x2 := hP.x.cell (i := 2) (v := .int .i64 0) rfl
 have g2 := hP.x.frozen 2
 have x3 := hP.x.cell (i := 3) (v := .int .i64 0) rfl
 have g3 := hP.x.frozen 3
 have x4 := hP.x.cell (i := 4) (v := .string ⟨#[]⟩) rfl
 have g4 := hP.x.frozen 4
 have HP := Lib.hid hP
 clear hP
 have hP := HP.out.set HBB.out 2 (.int .i64 (no : Int))
 clear HP
 clear q x0 x1 x2 x3 x4 g0 g1 g2 g3 g4
 have q := hP.box.cell (i := 0) (v := .pointer (some ⟨p, 0, none⟩)) rfl
 have x0 := hP.x.cell (i := 0) (v := .int .i64 1) rfl
 have g0 := hP.x.frozen 0
 have x1 := hP.x.cell (i := 1) (v := .int .i64 0) rfl
 have g1 := hP.x.frozen 1
 have x2 := hP.x.cell (i := 2) (v := .int .i64 (no : Int)) rfl
 have g2 := hP.x.frozen 2
 have x3 := hP.x.cell (i := 3) (v := .int .i64 0) rfl
 have g3 := hP.x.frozen 3
 have x4 := hP.x.cell (i := 4) (v := .string ⟨#[]⟩) rfl
 have g4 := hP.x.frozen 4
 have HP := Lib.hid hP
 clear hP
 refine (checked_any _ _ _ _).mono ?_
 rw [show chdE false 0 (no : Int) = 2 from chd_no]
 rintro e wc ⟨rfl, b2⟩
 have hP := HP.out.below b2
 clear b2 HP
 clear q x0 x1 x2 x3 x4 g0 g1 g2 g3 g4
 have q := hP.box.cell (i := 0) (v := .pointer (some ⟨p, 0, none⟩)) rfl
 have x0 := hP.x.cell (i := 0) (v := .int .i64 1) rfl
 have g0 := hP.x.frozen 0
 have x1 := hP.x.cell (i := 1) (v := .int .i64 0) rfl
 have g1 := hP.x.frozen 1
 have x2 := hP.x.cell (i := 2) (v := .int .i64 (no : Int)) rfl
 have g2 := hP.x.frozen 2
 have x3 := hP.x.cell (i := 3) (v := .int .i64 0) rfl
 have g3 := hP.x.frozen 3
 have x4 := hP.x.cell (i := 4) (v := .string ⟨#[]⟩) rfl
 have g4 := hP.x.frozen 4
 have HP := Lib.hid hP
 clear hP
 go_wp2_with fail
 refine (need_no _).mono ?_
 rintro e wn ⟨rfl, rfl⟩
 go_wp2_with fail
 exact ⟨rfl, rfl, HP.out.fr⟩
set_option maxRecDepth 100000 in
set_option maxHeartbeats 2000000 in
theorem par_1 (lo p X ro no : Nat) (st1 st2 st3 : Rd) (bs : List UInt8) (w : World) (hB : PB w lo p X) (hx : Blk w X 121 recZ) (hr : RdAt w lo p (some bs)) (hs : Rsmall (some bs)) (h1 : rdN 3 (some bs) = some (1, st1)) (h2 : rdN 1073741824 st1 = some (ro, st2)) (h3 : rdN 6 st2 = some (no, st3)) (hro : 1 ≤ ro) :
  Calls Tryz.prog 165 #[rdV p, .pointer (some ⟨X, 0, none⟩)] w fun e w' => e = .returned (.tuple #[]) ∧ RdAt w' lo p st3 ∧ Fr (Sor p X) w w' ∧ Blk w' X 121 (recC 1 ro no 0 ⟨#[]⟩) := by
 have hs1 := hs.n h1
 have H1 := Lib.hid h1
 clear h1
 have hs2 := hs1.n h2
 have hro2 := (rdN_dec h2).2
 have H2 := Lib.hid h2
 clear h2
 have hs3 := hs2.n h3
 have hno2 := (rdN_dec h3).2
 have H3 := Lib.hid h3
 clear h3
 have hP := PI.start hB hx hr
 have HBB := Lib.hid hB
 have q := hP.box.cell (i := 0) (v := .pointer (some ⟨p, 0, none⟩)) rfl
 have x0 := hP.x.cell (i := 0) (v := .int .i64 0) rfl
 have g0 := hP.x.frozen 0
 have x1 := hP.x.cell (i := 1) (v := .int .i64 0) rfl
 have g1 := hP.x.frozen 1
 have x2 := hP.x.cell (i := 2) (v := .int .i64 0) rfl
 have g2 := hP.x.frozen 2
 have x3 := hP.x.cell (i := 3) (v := .int .i64 0) rfl
 have g3 := hP.x.frozen 3
 have x4 := hP.x.cell (i := 4) (v := .string ⟨#[]⟩) rfl
 have g4 := hP.x.frozen 4
 have HP := Lib.hid hP
 clear hP
 clear hx hr hB
 go_enter Tryz.func165, Tryz.ntmps165
 go_wp2_with fail
 refine (rnum_yes lo p 3 1 (some bs) st1 _ HP.out.rd hs (by omega) H1.out).mono ?_
 rintro e w1 ⟨rfl, hS⟩
 have hP := HP.out.step HBB.out hS
 clear hS HP
 clear q x0 x1 x2 x3 x4 g0 g1 g2 g3 g4
 have q := hP.box.cell (i := 0) (v := .pointer (some ⟨p, 0, none⟩)) rfl
 have x0 := hP.x.cell (i := 0) (v := .int .i64 0) rfl
 have g0 := hP.x.frozen 0
 have x1 := hP.x.cell (i := 1) (v := .int .i64 0) rfl
 have g1 := hP.x.frozen 1
 have x2 := hP.x.cell (i := 2) (v := .int .i64 0) rfl
 have g2 := hP.x.frozen 2
 have x3 := hP.x.cell (i := 3) (v := .int .i64 0) rfl
 have g3 := hP.x.frozen 3
 have x4 := hP.x.cell (i := 4) (v := .string ⟨#[]⟩) rfl
 have g4 := hP.x.frozen 4
 have HP := Lib.hid hP
 clear hP
 go_wp2_with fail
 have hP := HP.out.set HBB.out 0 (.int .i64 1)
 clear HP
 clear q x0 x1 x2 x3 x4 g0 g1 g2 g3 g4
 have q := hP.box.cell (i := 0) (v := .pointer (some ⟨p, 0, none⟩)) rfl
 have x0 := hP.x.cell (i := 0) (v := .int .i64 1) rfl
 have g0 := hP.x.frozen 0
 have x1 := hP.x.cell (i := 1) (v := .int .i64 0) rfl
 have g1 := hP.x.frozen 1
 have x2 := hP.x.cell (i := 2) (v := .int .i64 0) rfl
 have g2 := hP.x.frozen 2
 have x3 := hP.x.cell (i := 3) (v := .int .i64 0) rfl
 have g3 := hP.x.frozen 3
 have x4 := hP.x.cell (i := 4) (v := .string ⟨#[]⟩) rfl
 have g4 := hP.x.frozen 4
 have HP := Lib.hid hP
 clear hP
 refine (need_yes _).mono ?_
 rintro e wn ⟨rfl, rfl⟩
 go_wp2_with fail
 refine (rbal_yes lo p ro no st1 st2 st3 _ HP.out.rd hs1 H2.out H3.out).mono ?_
 rintro e wb ⟨rfl, hS⟩
 have hP := HP.out.step HBB.out hS
 clear hS HP
 clear q x0 x1 x2 x3 x4 g0 g1 g2 g3 g4
 have q := hP.box.cell (i := 0) (v := .pointer (some ⟨p, 0, none⟩)) rfl
 have x0 := hP.x.cell (i := 0) (v := .int .i64 1) rfl
 have g0 := hP.x.frozen 0
 have x1 := hP.x.cell (i := 1) (v := .int .i64 0) rfl
 have g1 := hP.x.frozen 1
 have x2 := hP.x.cell (i := 2) (v := .int .i64 0) rfl
 have g2 := hP.x.frozen 2
 have x3 := hP.x.cell (i := 3) (v := .int .i64 0) rfl
 have g3 := hP.x.frozen 3
 have x4 := hP.x.cell (i := 4) (v := .string ⟨#[]⟩) rfl
 have g4 := hP.x.frozen 4
 have HP := Lib.hid hP
 clear hP
 go_wp2_with fail
 have hP := HP.out.set HBB.out 1 (.int .i64 (ro : Int))
 clear HP
 clear q x0 x1 x2 x3 x4 g0 g1 g2 g3 g4
 have q := hP.box.cell (i := 0) (v := .pointer (some ⟨p, 0, none⟩)) rfl
 have x0 := hP.x.cell (i := 0) (v := .int .i64 1) rfl
 have g0 := hP.x.frozen 0
 have x1 := hP.x.cell (i := 1) (v := .int .i64 (ro : Int)) rfl
 have g1 := hP.x.frozen 1
 have x2 := hP.x.cell (i := 2) (v := .int .i64 0) rfl
 have g2 := hP.x.frozen 2
 have x3 := hP.x.cell (i := 3) (v := .int .i64 0) rfl
 have g3 := hP.x.frozen 3
 have x4 := hP.x.cell (i := 4) (v := .string ⟨#[]⟩) rfl
 have g4 := hP.x.frozen 4
 have HP := Lib.hid hP
 clear hP
 have hP := HP.out.set HBB.out 2 (.int .i64 (no : Int))
 clear HP
 clear q x0 x1 x2 x3 x4 g0 g1 g2 g3 g4
 have q := hP.box.cell (i := 0) (v := .pointer (some ⟨p, 0, none⟩)) rfl
 have x0 := hP.x.cell (i := 0) (v := .int .i64 1) rfl
 have g0 := hP.x.frozen 0
 have x1 := hP.x.cell (i := 1) (v := .int .i64 (ro : Int)) rfl
 have g1 := hP.x.frozen 1
 have x2 := hP.x.cell (i := 2) (v := .int .i64 (no : Int)) rfl
 have g2 := hP.x.frozen 2
 have x3 := hP.x.cell (i := 3) (v := .int .i64 0) rfl
 have g3 := hP.x.frozen 3
 have x4 := hP.x.cell (i := 4) (v := .string ⟨#[]⟩) rfl
 have g4 := hP.x.frozen 4
 have HP := Lib.hid hP
 clear hP
 refine (checked_any _ _ _ _).mono ?_
 rw [show chdE false (ro : Int) (no : Int) = 0 from chd_yes hro hro2 hno2]
 rintro e wc ⟨rfl, b2⟩
 have hP := HP.out.below b2
 clear b2 HP
 clear q x0 x1 x2 x3 x4 g0 g1 g2 g3 g4
 have q := hP.box.cell (i := 0) (v := .pointer (some ⟨p, 0, none⟩)) rfl
 have x0 := hP.x.cell (i := 0) (v := .int .i64 1) rfl
 have g0 := hP.x.frozen 0
 have x1 := hP.x.cell (i := 1) (v := .int .i64 (ro : Int)) rfl
 have g1 := hP.x.frozen 1
 have x2 := hP.x.cell (i := 2) (v := .int .i64 (no : Int)) rfl
 have g2 := hP.x.frozen 2
 have x3 := hP.x.cell (i := 3) (v := .int .i64 0) rfl
 have g3 := hP.x.frozen 3
 have x4 := hP.x.cell (i := 4) (v := .string ⟨#[]⟩) rfl
 have g4 := hP.x.frozen 4
 have HP := Lib.hid hP
 clear hP
 go_wp2_with fail
 refine (need_yes _).mono ?_
 rintro e wn ⟨rfl, rfl⟩
 go_wp2_with fail
 go_end0
 exact ⟨rfl, HP.out.rd, HP.out.fr, HP.out.x⟩
set_option maxRecDepth 100000 in
set_option maxHeartbeats 2000000 in
theorem par_2b1 (lo p X : Nat) (st1 : Rd) (bs : List UInt8) (w : World) (hB : PB w lo p X) (hx : Blk w X 121 recZ) (hr : RdAt w lo p (some bs)) (hs : Rsmall (some bs)) (h1 : rdN 3 (some bs) = some (2, st1)) (h2 : rdN 1073741824 st1 = none) :
  Calls Tryz.prog 165 #[rdV p, .pointer (some ⟨X, 0, none⟩)] w fun e w' => e = .panicked malC ∧ Fr (Sor p X) w w' := by
 have hs1 := hs.n h1
 have H1 := Lib.hid h1
 clear h1
 have H2 := Lib.hid h2
 clear h2
 have hP := PI.start hB hx hr
 have HBB := Lib.hid hB
 have q := hP.box.cell (i := 0) (v := .pointer (some ⟨p, 0, none⟩)) rfl
 have x0 := hP.x.cell (i := 0) (v := .int .i64 0) rfl
 have g0 := hP.x.frozen 0
 have x1 := hP.x.cell (i := 1) (v := .int .i64 0) rfl
 have g1 := hP.x.frozen 1
 have x2 := hP.x.cell (i := 2) (v := .int .i64 0) rfl
 have g2 := hP.x.frozen 2
 have x3 := hP.x.cell (i := 3) (v := .int .i64 0) rfl
 have g3 := hP.x.frozen 3
 have x4 := hP.x.cell (i := 4) (v := .string ⟨#[]⟩) rfl
 have g4 := hP.x.frozen 4
 have HP := Lib.hid hP
 clear hP
 clear hx hr hB
 go_enter Tryz.func165, Tryz.ntmps165
 go_wp2_with fail
 refine (rnum_yes lo p 3 2 (some bs) st1 _ HP.out.rd hs (by omega) H1.out).mono ?_
 rintro e w1 ⟨rfl, hS⟩
 have hP := HP.out.step HBB.out hS
 clear hS HP
 clear q x0 x1 x2 x3 x4 g0 g1 g2 g3 g4
 have q := hP.box.cell (i := 0) (v := .pointer (some ⟨p, 0, none⟩)) rfl
 have x0 := hP.x.cell (i := 0) (v := .int .i64 0) rfl
 have g0 := hP.x.frozen 0
 have x1 := hP.x.cell (i := 1) (v := .int .i64 0) rfl
 have g1 := hP.x.frozen 1
 have x2 := hP.x.cell (i := 2) (v := .int .i64 0) rfl
 have g2 := hP.x.frozen 2
 have x3 := hP.x.cell (i := 3) (v := .int .i64 0) rfl
 have g3 := hP.x.frozen 3
 have x4 := hP.x.cell (i := 4) (v := .string ⟨#[]⟩) rfl
 have g4 := hP.x.frozen 4
 have HP := Lib.hid hP
 clear hP
 go_wp2_with fail
 have hP := HP.out.set HBB.out 0 (.int .i64 2)
 clear HP
 clear q x0 x1 x2 x3 x4 g0 g1 g2 g3 g4
 have q := hP.box.cell (i := 0) (v := .pointer (some ⟨p, 0, none⟩)) rfl
 have x0 := hP.x.cell (i := 0) (v := .int .i64 2) rfl
 have g0 := hP.x.frozen 0
 have x1 := hP.x.cell (i := 1) (v := .int .i64 0) rfl
 have g1 := hP.x.frozen 1
 have x2 := hP.x.cell (i := 2) (v := .int .i64 0) rfl
 have g2 := hP.x.frozen 2
 have x3 := hP.x.cell (i := 3) (v := .int .i64 0) rfl
 have g3 := hP.x.frozen 3
 have x4 := hP.x.cell (i := 4) (v := .string ⟨#[]⟩) rfl
 have g4 := hP.x.frozen 4
 have HP := Lib.hid hP
 clear hP
 refine (need_yes _).mono ?_
 rintro e wn ⟨rfl, rfl⟩
 go_wp2_with fail
 refine (rbal_no1 lo p st1 _ HP.out.rd hs1 H2.out).mono ?_
 rintro e wz ⟨rfl, hF⟩
 have HF := Lib.hid (HP.out.halt hF)
 clear hF
 clear q x0 x1 x2 x3 x4 g0 g1 g2 g3 g4
 go_wp2_with fail
 exact ⟨rfl, rfl, HF.out⟩
set_option maxRecDepth 100000 in
set_option maxHeartbeats 2000000 in
theorem par_2b2 (lo p X ro : Nat) (st1 st2 : Rd) (bs : List UInt8) (w : World) (hB : PB w lo p X) (hx : Blk w X 121 recZ) (hr : RdAt w lo p (some bs)) (hs : Rsmall (some bs)) (h1 : rdN 3 (some bs) = some (2, st1)) (h2 : rdN 1073741824 st1 = some (ro, st2)) (h3 : rdN 6 st2 = none) :
  Calls Tryz.prog 165 #[rdV p, .pointer (some ⟨X, 0, none⟩)] w fun e w' => e = .panicked malC ∧ Fr (Sor p X) w w' := by
 have hs1 := hs.n h1
 have H1 := Lib.hid h1
 clear h1
 have hs2 := hs1.n h2
 have hro2 := (rdN_dec h2).2
 have H2 := Lib.hid h2
 clear h2
 have H3 := Lib.hid h3
 clear h3
 have hP := PI.start hB hx hr
 have HBB := Lib.hid hB
 have q := hP.box.cell (i := 0) (v := .pointer (some ⟨p, 0, none⟩)) rfl
 have x0 := hP.x.cell (i := 0) (v := .int .i64 0) rfl
 have g0 := hP.x.frozen 0
 have x1 := hP.x.cell (i := 1) (v := .int .i64 0) rfl
 have g1 := hP.x.frozen 1
 have x2 := hP.x.cell (i := 2) (v := .int .i64 0) rfl
 have g2 := hP.x.frozen 2
 have x3 := hP.x.cell (i := 3) (v := .int .i64 0) rfl
 have g3 := hP.x.frozen 3
 have x4 := hP.x.cell (i := 4) (v := .string ⟨#[]⟩) rfl
 have g4 := hP.x.frozen 4
 have HP := Lib.hid hP
 clear hP
 clear hx hr hB
 go_enter Tryz.func165, Tryz.ntmps165
 go_wp2_with fail
 refine (rnum_yes lo p 3 2 (some bs) st1 _ HP.out.rd hs (by omega) H1.out).mono ?_
 rintro e w1 ⟨rfl, hS⟩
 have hP := HP.out.step HBB.out hS
 clear hS HP
 clear q x0 x1 x2 x3 x4 g0 g1 g2 g3 g4
 have q := hP.box.cell (i := 0) (v := .pointer (some ⟨p, 0, none⟩)) rfl
 have x0 := hP.x.cell (i := 0) (v := .int .i64 0) rfl
 have g0 := hP.x.frozen 0
 have x1 := hP.x.cell (i := 1) (v := .int .i64 0) rfl
 have g1 := hP.x.frozen 1
 have x2 := hP.x.cell (i := 2) (v := .int .i64 0) rfl
 have g2 := hP.x.frozen 2
 have x3 := hP.x.cell (i := 3) (v := .int .i64 0) rfl
 have g3 := hP.x.frozen 3
 have x4 := hP.x.cell (i := 4) (v := .string ⟨#[]⟩) rfl
 have g4 := hP.x.frozen 4
 have HP := Lib.hid hP
 clear hP
 go_wp2_with fail
 have hP := HP.out.set HBB.out 0 (.int .i64 2)
 clear HP
 clear q x0 x1 x2 x3 x4 g0 g1 g2 g3 g4
 have q := hP.box.cell (i := 0) (v := .pointer (some ⟨p, 0, none⟩)) rfl
 have x0 := hP.x.cell (i := 0) (v := .int .i64 2) rfl
 have g0 := hP.x.frozen 0
 have x1 := hP.x.cell (i := 1) (v := .int .i64 0) rfl
 have g1 := hP.x.frozen 1
 have x2 := hP.x.cell (i := 2) (v := .int .i64 0) rfl
 have g2 := hP.x.frozen 2
 have x3 := hP.x.cell (i := 3) (v := .int .i64 0) rfl
 have g3 := hP.x.frozen 3
 have x4 := hP.x.cell (i := 4) (v := .string ⟨#[]⟩) rfl
 have g4 := hP.x.frozen 4
 have HP := Lib.hid hP
 clear hP
 refine (need_yes _).mono ?_
 rintro e wn ⟨rfl, rfl⟩
 go_wp2_with fail
 refine (rbal_no2 lo p ro st1 st2 _ HP.out.rd hs1 H2.out H3.out).mono ?_
 rintro e wz ⟨rfl, hF⟩
 have HF := Lib.hid (HP.out.halt hF)
 clear hF
 clear q x0 x1 x2 x3 x4 g0 g1 g2 g3 g4
 go_wp2_with fail
 exact ⟨rfl, rfl, HF.out⟩
set_option maxRecDepth 100000 in
set_option maxHeartbeats 2000000 in
theorem par_2c (lo p X ro no : Nat) (st1 st2 st3 : Rd) (bs : List UInt8) (w : World) (hB : PB w lo p X) (hx : Blk w X 121 recZ) (hr : RdAt w lo p (some bs)) (hs : Rsmall (some bs)) (h1 : rdN 3 (some bs) = some (2, st1)) (h2 : rdN 1073741824 st1 = some (ro, st2)) (h3 : rdN 6 st2 = some (no, st3)) (hro : ro = 0) :
  Calls Tryz.prog 165 #[rdV p, .pointer (some ⟨X, 0, none⟩)] w fun e w' => e = .panicked malC ∧ Fr (Sor p X) w w' := by
 have hs1 := hs.n h1
 have H1 := Lib.hid h1
 clear h1
 have hs2 := hs1.n h2
 have hro2 := (rdN_dec h2).2
 have H2 := Lib.hid h2
 clear h2
 have hs3 := hs2.n h3
 have hno2 := (rdN_dec h3).2
 have H3 := Lib.hid h3
 clear h3
 subst hro
 have hP := PI.start hB hx hr
 have HBB := Lib.hid hB
 have q := hP.box.cell (i := 0) (v := .pointer (some ⟨p, 0, none⟩)) rfl
 have x0 := hP.x.cell (i := 0) (v := .int .i64 0) rfl
 have g0 := hP.x.frozen 0
 have x1 := hP.x.cell (i := 1) (v := .int .i64 0) rfl
 have g1 := hP.x.frozen 1
 have x2 := hP.x.cell (i := 2) (v := .int .i64 0) rfl
 have g2 := hP.x.frozen 2
 have x3 := hP.x.cell (i := 3) (v := .int .i64 0) rfl
 have g3 := hP.x.frozen 3
 have x4 := hP.x.cell (i := 4) (v := .string ⟨#[]⟩) rfl
 have g4 := hP.x.frozen 4
 have HP := Lib.hid hP
 clear hP
 clear hx hr hB
 go_enter Tryz.func165, Tryz.ntmps165
 go_wp2_with fail
 refine (rnum_yes lo p 3 2 (some bs) st1 _ HP.out.rd hs (by omega) H1.out).mono ?_
 rintro e w1 ⟨rfl, hS⟩
 have hP := HP.out.step HBB.out hS
 clear hS HP
 clear q x0 x1 x2 x3 x4 g0 g1 g2 g3 g4
 have q := hP.box.cell (i := 0) (v := .pointer (some ⟨p, 0, none⟩)) rfl
 have x0 := hP.x.cell (i := 0) (v := .int .i64 0) rfl
 have g0 := hP.x.frozen 0
 have x1 := hP.x.cell (i := 1) (v := .int .i64 0) rfl
 have g1 := hP.x.frozen 1
 have x2 := hP.x.cell (i := 2) (v := .int .i64 0) rfl
 have g2 := hP.x.frozen 2
 have x3 := hP.x.cell (i := 3) (v := .int .i64 0) rfl
 have g3 := hP.x.frozen 3
 have x4 := hP.x.cell (i := 4) (v := .string ⟨#[]⟩) rfl
 have g4 := hP.x.frozen 4
 have HP := Lib.hid hP
 clear hP
 go_wp2_with fail
 have hP := HP.out.set HBB.out 0 (.int .i64 2)
 clear HP
 clear q x0 x1 x2 x3 x4 g0 g1 g2 g3 g4
 have q := hP.box.cell (i := 0) (v := .pointer (some ⟨p, 0, none⟩)) rfl
 have x0 := hP.x.cell (i := 0) (v := .int .i64 2) rfl
 have g0 := hP.x.frozen 0
 have x1 := hP.x.cell (i := 1) (v := .int .i64 0) rfl
 have g1 := hP.x.frozen 1
 have x2 := hP.x.cell (i := 2) (v := .int .i64 0) rfl
 have g2 := hP.x.frozen 2
 have x3 := hP.x.cell (i := 3) (v := .int .i64 0) rfl
 have g3 := hP.x.frozen 3
 have x4 := hP.x.cell (i := 4) (v := .string ⟨#[]⟩) rfl
 have g4 := hP.x.frozen 4
 have HP := Lib.hid hP
 clear hP
 refine (need_yes _).mono ?_
 rintro e wn ⟨rfl, rfl⟩
 go_wp2_with fail
 refine (rbal_yes lo p 0 no st1 st2 st3 _ HP.out.rd hs1 H2.out H3.out).mono ?_
 rintro e wb ⟨rfl, hS⟩
 have hP := HP.out.step HBB.out hS
 clear hS HP
 clear q x0 x1 x2 x3 x4 g0 g1 g2 g3 g4
 have q := hP.box.cell (i := 0) (v := .pointer (some ⟨p, 0, none⟩)) rfl
 have x0 := hP.x.cell (i := 0) (v := .int .i64 2) rfl
 have g0 := hP.x.frozen 0
 have x1 := hP.x.cell (i := 1) (v := .int .i64 0) rfl
 have g1 := hP.x.frozen 1
 have x2 := hP.x.cell (i := 2) (v := .int .i64 0) rfl
 have g2 := hP.x.frozen 2
 have x3 := hP.x.cell (i := 3) (v := .int .i64 0) rfl
 have g3 := hP.x.frozen 3
 have x4 := hP.x.cell (i := 4) (v := .string ⟨#[]⟩) rfl
 have g4 := hP.x.frozen 4
 have HP := Lib.hid hP
 clear hP
 go_wp2_with fail
 have hP := HP.out.set HBB.out 1 (.int .i64 0)
 clear HP
 clear q x0 x1 x2 x3 x4 g0 g1 g2 g3 g4
 have q := hP.box.cell (i := 0) (v := .pointer (some ⟨p, 0, none⟩)) rfl
 have x0 := hP.x.cell (i := 0) (v := .int .i64 2) rfl
 have g0 := hP.x.frozen 0
 have x1 := hP.x.cell (i := 1) (v := .int .i64 0) rfl
 have g1 := hP.x.frozen 1
 have x2 := hP.x.cell (i := 2) (v := .int .i64 0) rfl
 have g2 := hP.x.frozen 2
 have x3 := hP.x.cell (i := 3) (v := .int .i64 0) rfl
 have g3 := hP.x.frozen 3
 have x4 := hP.x.cell (i := 4) (v := .string ⟨#[]⟩) rfl
 have g4 := hP.x.frozen 4
 have HP := Lib.hid hP
 clear hP
 have hP := HP.out.set HBB.out 2 (.int .i64 (no : Int))
 clear HP
 clear q x0 x1 x2 x3 x4 g0 g1 g2 g3 g4
 have q := hP.box.cell (i := 0) (v := .pointer (some ⟨p, 0, none⟩)) rfl
 have x0 := hP.x.cell (i := 0) (v := .int .i64 2) rfl
 have g0 := hP.x.frozen 0
 have x1 := hP.x.cell (i := 1) (v := .int .i64 0) rfl
 have g1 := hP.x.frozen 1
 have x2 := hP.x.cell (i := 2) (v := .int .i64 (no : Int)) rfl
 have g2 := hP.x.frozen 2
 have x3 := hP.x.cell (i := 3) (v := .int .i64 0) rfl
 have g3 := hP.x.frozen 3
 have x4 := hP.x.cell (i := 4) (v := .string ⟨#[]⟩) rfl
 have g4 := hP.x.frozen 4
 have HP := Lib.hid hP
 clear hP
 refine (checked_any _ _ _ _).mono ?_
 rw [show chdE false 0 (no : Int) = 2 from chd_no]
 rintro e wc ⟨rfl, b2⟩
 have hP := HP.out.below b2
 clear b2 HP
 clear q x0 x1 x2 x3 x4 g0 g1 g2 g3 g4
 have q := hP.box.cell (i := 0) (v := .pointer (some ⟨p, 0, none⟩)) rfl
 have x0 := hP.x.cell (i := 0) (v := .int .i64 2) rfl
 have g0 := hP.x.frozen 0
 have x1 := hP.x.cell (i := 1) (v := .int .i64 0) rfl
 have g1 := hP.x.frozen 1
 have x2 := hP.x.cell (i := 2) (v := .int .i64 (no : Int)) rfl
 have g2 := hP.x.frozen 2
 have x3 := hP.x.cell (i := 3) (v := .int .i64 0) rfl
 have g3 := hP.x.frozen 3
 have x4 := hP.x.cell (i := 4) (v := .string ⟨#[]⟩) rfl
 have g4 := hP.x.frozen 4
 have HP := Lib.hid hP
 clear hP
 go_wp2_with fail
 refine (need_no _).mono ?_
 rintro e wn ⟨rfl, rfl⟩
 go_wp2_with fail
 exact ⟨rfl, rfl, HP.out.fr⟩
set_option maxRecDepth 100000 in
set_option maxHeartbeats 2000000 in
theorem par_2s (lo p X ro no : Nat) (st1 st2 st3 : Rd) (bs : List UInt8) (w : World) (hB : PB w lo p X) (hx : Blk w X 121 recZ) (hr : RdAt w lo p (some bs)) (hs : Rsmall (some bs)) (h1 : rdN 3 (some bs) = some (2, st1)) (h2 : rdN 1073741824 st1 = some (ro, st2)) (h3 : rdN 6 st2 = some (no, st3)) (h4 : rdN 4095 st3 = none) (hro : 1 ≤ ro) :
  Calls Tryz.prog 165 #[rdV p, .pointer (some ⟨X, 0, none⟩)] w fun e w' => e = .panicked malC ∧ Fr (Sor p X) w w' := by
 have hs1 := hs.n h1
 have H1 := Lib.hid h1
 clear h1
 have hs2 := hs1.n h2
 have hro2 := (rdN_dec h2).2
 have H2 := Lib.hid h2
 clear h2
 have hs3 := hs2.n h3
 have hno2 := (rdN_dec h3).2
 have H3 := Lib.hid h3
 clear h3
 have H4 := Lib.hid h4
 clear h4
 have hP := PI.start hB hx hr
 have HBB := Lib.hid hB
 have q := hP.box.cell (i := 0) (v := .pointer (some ⟨p, 0, none⟩)) rfl
 have x0 := hP.x.cell (i := 0) (v := .int .i64 0) rfl
 have g0 := hP.x.frozen 0
 have x1 := hP.x.cell (i := 1) (v := .int .i64 0) rfl
 have g1 := hP.x.frozen 1
 have x2 := hP.x.cell (i := 2) (v := .int .i64 0) rfl
 have g2 := hP.x.frozen 2
 have x3 := hP.x.cell (i := 3) (v := .int .i64 0) rfl
 have g3 := hP.x.frozen 3
 have x4 := hP.x.cell (i := 4) (v := .string ⟨#[]⟩) rfl
 have g4 := hP.x.frozen 4
 have HP := Lib.hid hP
 clear hP
 clear hx hr hB
 go_enter Tryz.func165, Tryz.ntmps165
 go_wp2_with fail
 refine (rnum_yes lo p 3 2 (some bs) st1 _ HP.out.rd hs (by omega) H1.out).mono ?_
 rintro e w1 ⟨rfl, hS⟩
 have hP := HP.out.step HBB.out hS
 clear hS HP
 clear q x0 x1 x2 x3 x4 g0 g1 g2 g3 g4
 have q := hP.box.cell (i := 0) (v := .pointer (some ⟨p, 0, none⟩)) rfl
 have x0 := hP.x.cell (i := 0) (v := .int .i64 0) rfl
 have g0 := hP.x.frozen 0
 have x1 := hP.x.cell (i := 1) (v := .int .i64 0) rfl
 have g1 := hP.x.frozen 1
 have x2 := hP.x.cell (i := 2) (v := .int .i64 0) rfl
 have g2 := hP.x.frozen 2
 have x3 := hP.x.cell (i := 3) (v := .int .i64 0) rfl
 have g3 := hP.x.frozen 3
 have x4 := hP.x.cell (i := 4) (v := .string ⟨#[]⟩) rfl
 have g4 := hP.x.frozen 4
 have HP := Lib.hid hP
 clear hP
 go_wp2_with fail
 have hP := HP.out.set HBB.out 0 (.int .i64 2)
 clear HP
 clear q x0 x1 x2 x3 x4 g0 g1 g2 g3 g4
 have q := hP.box.cell (i := 0) (v := .pointer (some ⟨p, 0, none⟩)) rfl
 have x0 := hP.x.cell (i := 0) (v := .int .i64 2) rfl
 have g0 := hP.x.frozen 0
 have x1 := hP.x.cell (i := 1) (v := .int .i64 0) rfl
 have g1 := hP.x.frozen 1
 have x2 := hP.x.cell (i := 2) (v := .int .i64 0) rfl
 have g2 := hP.x.frozen 2
 have x3 := hP.x.cell (i := 3) (v := .int .i64 0) rfl
 have g3 := hP.x.frozen 3
 have x4 := hP.x.cell (i := 4) (v := .string ⟨#[]⟩) rfl
 have g4 := hP.x.frozen 4
 have HP := Lib.hid hP
 clear hP
 refine (need_yes _).mono ?_
 rintro e wn ⟨rfl, rfl⟩
 go_wp2_with fail
 refine (rbal_yes lo p ro no st1 st2 st3 _ HP.out.rd hs1 H2.out H3.out).mono ?_
 rintro e wb ⟨rfl, hS⟩
 have hP := HP.out.step HBB.out hS
 clear hS HP
 clear q x0 x1 x2 x3 x4 g0 g1 g2 g3 g4
 have q := hP.box.cell (i := 0) (v := .pointer (some ⟨p, 0, none⟩)) rfl
 have x0 := hP.x.cell (i := 0) (v := .int .i64 2) rfl
 have g0 := hP.x.frozen 0
 have x1 := hP.x.cell (i := 1) (v := .int .i64 0) rfl
 have g1 := hP.x.frozen 1
 have x2 := hP.x.cell (i := 2) (v := .int .i64 0) rfl
 have g2 := hP.x.frozen 2
 have x3 := hP.x.cell (i := 3) (v := .int .i64 0) rfl
 have g3 := hP.x.frozen 3
 have x4 := hP.x.cell (i := 4) (v := .string ⟨#[]⟩) rfl
 have g4 := hP.x.frozen 4
 have HP := Lib.hid hP
 clear hP
 go_wp2_with fail
 have hP := HP.out.set HBB.out 1 (.int .i64 (ro : Int))
 clear HP
 clear q x0 x1 x2 x3 x4 g0 g1 g2 g3 g4
 have q := hP.box.cell (i := 0) (v := .pointer (some ⟨p, 0, none⟩)) rfl
 have x0 := hP.x.cell (i := 0) (v := .int .i64 2) rfl
 have g0 := hP.x.frozen 0
 have x1 := hP.x.cell (i := 1) (v := .int .i64 (ro : Int)) rfl
 have g1 := hP.x.frozen 1
 have x2 := hP.x.cell (i := 2) (v := .int .i64 0) rfl
 have g2 := hP.x.frozen 2
 have x3 := hP.x.cell (i := 3) (v := .int .i64 0) rfl
 have g3 := hP.x.frozen 3
 have x4 := hP.x.cell (i := 4) (v := .string ⟨#[]⟩) rfl
 have g4 := hP.x.frozen 4
 have HP := Lib.hid hP
 clear hP
 have hP := HP.out.set HBB.out 2 (.int .i64 (no : Int))
 clear HP
 clear q x0 x1 x2 x3 x4 g0 g1 g2 g3 g4
 have q := hP.box.cell (i := 0) (v := .pointer (some ⟨p, 0, none⟩)) rfl
 have x0 := hP.x.cell (i := 0) (v := .int .i64 2) rfl
 have g0 := hP.x.frozen 0
 have x1 := hP.x.cell (i := 1) (v := .int .i64 (ro : Int)) rfl
 have g1 := hP.x.frozen 1
 have x2 := hP.x.cell (i := 2) (v := .int .i64 (no : Int)) rfl
 have g2 := hP.x.frozen 2
 have x3 := hP.x.cell (i := 3) (v := .int .i64 0) rfl
 have g3 := hP.x.frozen 3
 have x4 := hP.x.cell (i := 4) (v := .string ⟨#[]⟩) rfl
 have g4 := hP.x.frozen 4
 have HP := Lib.hid hP
 clear hP
 refine (checked_any _ _ _ _).mono ?_
 rw [show chdE false (ro : Int) (no : Int) = 0 from chd_yes hro hro2 hno2]
 rintro e wc ⟨rfl, b2⟩
 have hP := HP.out.below b2
 clear b2 HP
 clear q x0 x1 x2 x3 x4 g0 g1 g2 g3 g4
 have q := hP.box.cell (i := 0) (v := .pointer (some ⟨p, 0, none⟩)) rfl
 have x0 := hP.x.cell (i := 0) (v := .int .i64 2) rfl
 have g0 := hP.x.frozen 0
 have x1 := hP.x.cell (i := 1) (v := .int .i64 (ro : Int)) rfl
 have g1 := hP.x.frozen 1
 have x2 := hP.x.cell (i := 2) (v := .int .i64 (no : Int)) rfl
 have g2 := hP.x.frozen 2
 have x3 := hP.x.cell (i := 3) (v := .int .i64 0) rfl
 have g3 := hP.x.frozen 3
 have x4 := hP.x.cell (i := 4) (v := .string ⟨#[]⟩) rfl
 have g4 := hP.x.frozen 4
 have HP := Lib.hid hP
 clear hP
 go_wp2_with fail
 refine (need_yes _).mono ?_
 rintro e wn ⟨rfl, rfl⟩
 go_wp2_with fail
 refine (rnum_no lo p 4095 st3 _ HP.out.rd hs3 (by omega) H4.out).mono ?_
 rintro e wz ⟨rfl, hF⟩
 have HF := Lib.hid (HP.out.halt hF)
 clear hF
 clear q x0 x1 x2 x3 x4 g0 g1 g2 g3 g4
 go_wp2_with fail
 exact ⟨rfl, rfl, HF.out⟩
set_option maxRecDepth 100000 in
set_option maxHeartbeats 2000000 in
theorem par_2 (lo p X ro no sl : Nat) (st1 st2 st3 st4 : Rd) (bs : List UInt8) (w : World) (hB : PB w lo p X) (hx : Blk w X 121 recZ) (hr : RdAt w lo p (some bs)) (hs : Rsmall (some bs)) (h1 : rdN 3 (some bs) = some (2, st1)) (h2 : rdN 1073741824 st1 = some (ro, st2)) (h3 : rdN 6 st2 = some (no, st3)) (h4 : rdN 4095 st3 = some (sl, st4)) (hro : 1 ≤ ro) :
  Calls Tryz.prog 165 #[rdV p, .pointer (some ⟨X, 0, none⟩)] w fun e w' => e = .returned (.tuple #[]) ∧ RdAt w' lo p (rdT st4).2 ∧ Fr (Sor p X) w w' ∧ Blk w' X 121 (recC 2 ro no sl (sB (rdT st4).1)) := by
 have hs1 := hs.n h1
 have H1 := Lib.hid h1
 clear h1
 have hs2 := hs1.n h2
 have hro2 := (rdN_dec h2).2
 have H2 := Lib.hid h2
 clear h2
 have hs3 := hs2.n h3
 have hno2 := (rdN_dec h3).2
 have H3 := Lib.hid h3
 clear h3
 have hs4 := hs3.n h4
 have H4 := Lib.hid h4
 clear h4
 have hP := PI.start hB hx hr
 have HBB := Lib.hid hB
 have q := hP.box.cell (i := 0) (v := .pointer (some ⟨p, 0, none⟩)) rfl
 have x0 := hP.x.cell (i := 0) (v := .int .i64 0) rfl
 have g0 := hP.x.frozen 0
 have x1 := hP.x.cell (i := 1) (v := .int .i64 0) rfl
 have g1 := hP.x.frozen 1
 have x2 := hP.x.cell (i := 2) (v := .int .i64 0) rfl
 have g2 := hP.x.frozen 2
 have x3 := hP.x.cell (i := 3) (v := .int .i64 0) rfl
 have g3 := hP.x.frozen 3
 have x4 := hP.x.cell (i := 4) (v := .string ⟨#[]⟩) rfl
 have g4 := hP.x.frozen 4
 have HP := Lib.hid hP
 clear hP
 clear hx hr hB
 go_enter Tryz.func165, Tryz.ntmps165
 go_wp2_with fail
 refine (rnum_yes lo p 3 2 (some bs) st1 _ HP.out.rd hs (by omega) H1.out).mono ?_
 rintro e w1 ⟨rfl, hS⟩
 have hP := HP.out.step HBB.out hS
 clear hS HP
 clear q x0 x1 x2 x3 x4 g0 g1 g2 g3 g4
 have q := hP.box.cell (i := 0) (v := .pointer (some ⟨p, 0, none⟩)) rfl
 have x0 := hP.x.cell (i := 0) (v := .int .i64 0) rfl
 have g0 := hP.x.frozen 0
 have x1 := hP.x.cell (i := 1) (v := .int .i64 0) rfl
 have g1 := hP.x.frozen 1
 have x2 := hP.x.cell (i := 2) (v := .int .i64 0) rfl
 have g2 := hP.x.frozen 2
 have x3 := hP.x.cell (i := 3) (v := .int .i64 0) rfl
 have g3 := hP.x.frozen 3
 have x4 := hP.x.cell (i := 4) (v := .string ⟨#[]⟩) rfl
 have g4 := hP.x.frozen 4
 have HP := Lib.hid hP
 clear hP
 go_wp2_with fail
 have hP := HP.out.set HBB.out 0 (.int .i64 2)
 clear HP
 clear q x0 x1 x2 x3 x4 g0 g1 g2 g3 g4
 have q := hP.box.cell (i := 0) (v := .pointer (some ⟨p, 0, none⟩)) rfl
 have x0 := hP.x.cell (i := 0) (v := .int .i64 2) rfl
 have g0 := hP.x.frozen 0
 have x1 := hP.x.cell (i := 1) (v := .int .i64 0) rfl
 have g1 := hP.x.frozen 1
 have x2 := hP.x.cell (i := 2) (v := .int .i64 0) rfl
 have g2 := hP.x.frozen 2
 have x3 := hP.x.cell (i := 3) (v := .int .i64 0) rfl
 have g3 := hP.x.frozen 3
 have x4 := hP.x.cell (i := 4) (v := .string ⟨#[]⟩) rfl
 have g4 := hP.x.frozen 4
 have HP := Lib.hid hP
 clear hP
 refine (need_yes _).mono ?_
 rintro e wn ⟨rfl, rfl⟩
 go_wp2_with fail
 refine (rbal_yes lo p ro no st1 st2 st3 _ HP.out.rd hs1 H2.out H3.out).mono ?_
 rintro e wb ⟨rfl, hS⟩
 have hP := HP.out.step HBB.out hS
 clear hS HP
 clear q x0 x1 x2 x3 x4 g0 g1 g2 g3 g4
 have q := hP.box.cell (i := 0) (v := .pointer (some ⟨p, 0, none⟩)) rfl
 have x0 := hP.x.cell (i := 0) (v := .int .i64 2) rfl
 have g0 := hP.x.frozen 0
 have x1 := hP.x.cell (i := 1) (v := .int .i64 0) rfl
 have g1 := hP.x.frozen 1
 have x2 := hP.x.cell (i := 2) (v := .int .i64 0) rfl
 have g2 := hP.x.frozen 2
 have x3 := hP.x.cell (i := 3) (v := .int .i64 0) rfl
 have g3 := hP.x.frozen 3
 have x4 := hP.x.cell (i := 4) (v := .string ⟨#[]⟩) rfl
 have g4 := hP.x.frozen 4
 have HP := Lib.hid hP
 clear hP
 go_wp2_with fail
 have hP := HP.out.set HBB.out 1 (.int .i64 (ro : Int))
 clear HP
 clear q x0 x1 x2 x3 x4 g0 g1 g2 g3 g4
 have q := hP.box.cell (i := 0) (v := .pointer (some ⟨p, 0, none⟩)) rfl
 have x0 := hP.x.cell (i := 0) (v := .int .i64 2) rfl
 have g0 := hP.x.frozen 0
 have x1 := hP.x.cell (i := 1) (v := .int .i64 (ro : Int)) rfl
 have g1 := hP.x.frozen 1
 have x2 := hP.x.cell (i := 2) (v := .int .i64 0) rfl
 have g2 := hP.x.frozen 2
 have x3 := hP.x.cell (i := 3) (v := .int .i64 0) rfl
 have g3 := hP.x.frozen 3
 have x4 := hP.x.cell (i := 4) (v := .string ⟨#[]⟩) rfl
 have g4 := hP.x.frozen 4
 have HP := Lib.hid hP
 clear hP
 have hP := HP.out.set HBB.out 2 (.int .i64 (no : Int))
 clear HP
 clear q x0 x1 x2 x3 x4 g0 g1 g2 g3 g4
 have q := hP.box.cell (i := 0) (v := .pointer (some ⟨p, 0, none⟩)) rfl
 have x0 := hP.x.cell (i := 0) (v := .int .i64 2) rfl
 have g0 := hP.x.frozen 0
 have x1 := hP.x.cell (i := 1) (v := .int .i64 (ro : Int)) rfl
 have g1 := hP.x.frozen 1
 have x2 := hP.x.cell (i := 2) (v := .int .i64 (no : Int)) rfl
 have g2 := hP.x.frozen 2
 have x3 := hP.x.cell (i := 3) (v := .int .i64 0) rfl
 have g3 := hP.x.frozen 3
 have x4 := hP.x.cell (i := 4) (v := .string ⟨#[]⟩) rfl
 have g4 := hP.x.frozen 4
 have HP := Lib.hid hP
 clear hP
 refine (checked_any _ _ _ _).mono ?_
 rw [show chdE false (ro : Int) (no : Int) = 0 from chd_yes hro hro2 hno2]
 rintro e wc ⟨rfl, b2⟩
 have hP := HP.out.below b2
 clear b2 HP
 clear q x0 x1 x2 x3 x4 g0 g1 g2 g3 g4
 have q := hP.box.cell (i := 0) (v := .pointer (some ⟨p, 0, none⟩)) rfl
 have x0 := hP.x.cell (i := 0) (v := .int .i64 2) rfl
 have g0 := hP.x.frozen 0
 have x1 := hP.x.cell (i := 1) (v := .int .i64 (ro : Int)) rfl
 have g1 := hP.x.frozen 1
 have x2 := hP.x.cell (i := 2) (v := .int .i64 (no : Int)) rfl
 have g2 := hP.x.frozen 2
 have x3 := hP.x.cell (i := 3) (v := .int .i64 0) rfl
 have g3 := hP.x.frozen 3
 have x4 := hP.x.cell (i := 4) (v := .string ⟨#[]⟩) rfl
 have g4 := hP.x.frozen 4
 have HP := Lib.hid hP
 clear hP
 go_wp2_with fail
 refine (need_yes _).mono ?_
 rintro e wn ⟨rfl, rfl⟩
 go_wp2_with fail
 refine (rnum_yes lo p 4095 sl st3 st4 _ HP.out.rd hs3 (by omega) H4.out).mono ?_
 rintro e w4 ⟨rfl, hS⟩
 have hP := HP.out.step HBB.out hS
 clear hS HP
 clear q x0 x1 x2 x3 x4 g0 g1 g2 g3 g4
 have q := hP.box.cell (i := 0) (v := .pointer (some ⟨p, 0, none⟩)) rfl
 have x0 := hP.x.cell (i := 0) (v := .int .i64 2) rfl
 have g0 := hP.x.frozen 0
 have x1 := hP.x.cell (i := 1) (v := .int .i64 (ro : Int)) rfl
 have g1 := hP.x.frozen 1
 have x2 := hP.x.cell (i := 2) (v := .int .i64 (no : Int)) rfl
 have g2 := hP.x.frozen 2
 have x3 := hP.x.cell (i := 3) (v := .int .i64 0) rfl
 have g3 := hP.x.frozen 3
 have x4 := hP.x.cell (i := 4) (v := .string ⟨#[]⟩) rfl
 have g4 := hP.x.frozen 4
 have HP := Lib.hid hP
 clear hP
 go_wp2_with fail
 have hP := HP.out.set HBB.out 3 (.int .i64 (sl : Int))
 clear HP
 clear q x0 x1 x2 x3 x4 g0 g1 g2 g3 g4
 have q := hP.box.cell (i := 0) (v := .pointer (some ⟨p, 0, none⟩)) rfl
 have x0 := hP.x.cell (i := 0) (v := .int .i64 2) rfl
 have g0 := hP.x.frozen 0
 have x1 := hP.x.cell (i := 1) (v := .int .i64 (ro : Int)) rfl
 have g1 := hP.x.frozen 1
 have x2 := hP.x.cell (i := 2) (v := .int .i64 (no : Int)) rfl
 have g2 := hP.x.frozen 2
 have x3 := hP.x.cell (i := 3) (v := .int .i64 (sl : Int)) rfl
 have g3 := hP.x.frozen 3
 have x4 := hP.x.cell (i := 4) (v := .string ⟨#[]⟩) rfl
 have g4 := hP.x.frozen 4
 have HP := Lib.hid hP
 clear hP
 refine (rtext_any lo p st4 _ HP.out.rd hs4).mono ?_
 rintro e wt ⟨rfl, hS⟩
 have hP := HP.out.step HBB.out hS
 clear hS HP
 clear q x0 x1 x2 x3 x4 g0 g1 g2 g3 g4
 have q := hP.box.cell (i := 0) (v := .pointer (some ⟨p, 0, none⟩)) rfl
 have x0 := hP.x.cell (i := 0) (v := .int .i64 2) rfl
 have g0 := hP.x.frozen 0
 have x1 := hP.x.cell (i := 1) (v := .int .i64 (ro : Int)) rfl
 have g1 := hP.x.frozen 1
 have x2 := hP.x.cell (i := 2) (v := .int .i64 (no : Int)) rfl
 have g2 := hP.x.frozen 2
 have x3 := hP.x.cell (i := 3) (v := .int .i64 (sl : Int)) rfl
 have g3 := hP.x.frozen 3
 have x4 := hP.x.cell (i := 4) (v := .string ⟨#[]⟩) rfl
 have g4 := hP.x.frozen 4
 have HP := Lib.hid hP
 clear hP
 go_wp2_with fail
 have hP := HP.out.set HBB.out 4 (.string (sB (rdT st4).1))
 clear HP
 clear q x0 x1 x2 x3 x4 g0 g1 g2 g3 g4
 have q := hP.box.cell (i := 0) (v := .pointer (some ⟨p, 0, none⟩)) rfl
 have x0 := hP.x.cell (i := 0) (v := .int .i64 2) rfl
 have g0 := hP.x.frozen 0
 have x1 := hP.x.cell (i := 1) (v := .int .i64 (ro : Int)) rfl
 have g1 := hP.x.frozen 1
 have x2 := hP.x.cell (i := 2) (v := .int .i64 (no : Int)) rfl
 have g2 := hP.x.frozen 2
 have x3 := hP.x.cell (i := 3) (v := .int .i64 (sl : Int)) rfl
 have g3 := hP.x.frozen 3
 have x4 := hP.x.cell (i := 4) (v := .string (sB (rdT st4).1)) rfl
 have g4 := hP.x.frozen 4
 have HP := Lib.hid hP
 clear hP
 go_end0
 exact ⟨rfl, HP.out.rd, HP.out.fr, HP.out.x⟩
set_option maxRecDepth 100000 in
set_option maxHeartbeats 2000000 in
theorem par_3s (lo p X : Nat) (st1 : Rd) (bs : List UInt8) (w : World) (hB : PB w lo p X) (hx : Blk w X 121 recZ) (hr : RdAt w lo p (some bs)) (hs : Rsmall (some bs)) (h1 : rdN 3 (some bs) = some (3, st1)) (h4 : rdN 4095 st1 = none) :
  Calls Tryz.prog 165 #[rdV p, .pointer (some ⟨X, 0, none⟩)] w fun e w' => e = .panicked malC ∧ Fr (Sor p X) w w' := by
 have hs1 := hs.n h1
 have H1 := Lib.hid h1
 clear h1
 have H4 := Lib.hid h4
 clear h4
 have hP := PI.start hB hx hr
 have HBB := Lib.hid hB
 have q := hP.box.cell (i := 0) (v := .pointer (some ⟨p, 0, none⟩)) rfl
 have x0 := hP.x.cell (i := 0) (v := .int .i64 0) rfl
 have g0 := hP.x.frozen 0
 have x1 := hP.x.cell (i := 1) (v := .int .i64 0) rfl
 have g1 := hP.x.frozen 1
 have x2 := hP.x.cell (i := 2) (v := .int .i64 0) rfl
 have g2 := hP.x.frozen 2
 have x3 := hP.x.cell (i := 3) (v := .int .i64 0) rfl
 have g3 := hP.x.frozen 3
 have x4 := hP.x.cell (i := 4) (v := .string ⟨#[]⟩) rfl
 have g4 := hP.x.frozen 4
 have HP := Lib.hid hP
 clear hP
 clear hx hr hB
 go_enter Tryz.func165, Tryz.ntmps165
 go_wp2_with fail
 refine (rnum_yes lo p 3 3 (some bs) st1 _ HP.out.rd hs (by omega) H1.out).mono ?_
 rintro e w1 ⟨rfl, hS⟩
 have hP := HP.out.step HBB.out hS
 clear hS HP
 clear q x0 x1 x2 x3 x4 g0 g1 g2 g3 g4
 have q := hP.box.cell (i := 0) (v := .pointer (some ⟨p, 0, none⟩)) rfl
 have x0 := hP.x.cell (i := 0) (v := .int .i64 0) rfl
 have g0 := hP.x.frozen 0
 have x1 := hP.x.cell (i := 1) (v := .int .i64 0) rfl
 have g1 := hP.x.frozen 1
 have x2 := hP.x.cell (i := 2) (v := .int .i64 0) rfl
 have g2 := hP.x.frozen 2
 have x3 := hP.x.cell (i := 3) (v := .int .i64 0) rfl
 have g3 := hP.x.frozen 3
 have x4 := hP.x.cell (i := 4) (v := .string ⟨#[]⟩) rfl
 have g4 := hP.x.frozen 4
 have HP := Lib.hid hP
 clear hP
 go_wp2_with fail
 have hP := HP.out.set HBB.out 0 (.int .i64 3)
 clear HP
 clear q x0 x1 x2 x3 x4 g0 g1 g2 g3 g4
 have q := hP.box.cell (i := 0) (v := .pointer (some ⟨p, 0, none⟩)) rfl
 have x0 := hP.x.cell (i := 0) (v := .int .i64 3) rfl
 have g0 := hP.x.frozen 0
 have x1 := hP.x.cell (i := 1) (v := .int .i64 0) rfl
 have g1 := hP.x.frozen 1
 have x2 := hP.x.cell (i := 2) (v := .int .i64 0) rfl
 have g2 := hP.x.frozen 2
 have x3 := hP.x.cell (i := 3) (v := .int .i64 0) rfl
 have g3 := hP.x.frozen 3
 have x4 := hP.x.cell (i := 4) (v := .string ⟨#[]⟩) rfl
 have g4 := hP.x.frozen 4
 have HP := Lib.hid hP
 clear hP
 refine (need_yes _).mono ?_
 rintro e wn ⟨rfl, rfl⟩
 go_wp2_with fail
 refine (rnum_no lo p 4095 st1 _ HP.out.rd hs1 (by omega) H4.out).mono ?_
 rintro e wz ⟨rfl, hF⟩
 have HF := Lib.hid (HP.out.halt hF)
 clear hF
 clear q x0 x1 x2 x3 x4 g0 g1 g2 g3 g4
 go_wp2_with fail
 exact ⟨rfl, rfl, HF.out⟩
set_option maxRecDepth 100000 in
set_option maxHeartbeats 2000000 in
theorem par_3 (lo p X sl : Nat) (st1 st2 : Rd) (bs : List UInt8) (w : World) (hB : PB w lo p X) (hx : Blk w X 121 recZ) (hr : RdAt w lo p (some bs)) (hs : Rsmall (some bs)) (h1 : rdN 3 (some bs) = some (3, st1)) (h4 : rdN 4095 st1 = some (sl, st2)) :
  Calls Tryz.prog 165 #[rdV p, .pointer (some ⟨X, 0, none⟩)] w fun e w' => e = .returned (.tuple #[]) ∧ RdAt w' lo p (rdT st2).2 ∧ Fr (Sor p X) w w' ∧ Blk w' X 121 (recC 3 0 0 sl (sB (rdT st2).1)) := by
 have hs1 := hs.n h1
 have H1 := Lib.hid h1
 clear h1
 have hs2 := hs1.n h4
 have H4 := Lib.hid h4
 clear h4
 have hP := PI.start hB hx hr
 have HBB := Lib.hid hB
 have q := hP.box.cell (i := 0) (v := .pointer (some ⟨p, 0, none⟩)) rfl
 have x0 := hP.x.cell (i := 0) (v := .int .i64 0) rfl
 have g0 := hP.x.frozen 0
 have x1 := hP.x.cell (i := 1) (v := .int .i64 0) rfl
 have g1 := hP.x.frozen 1
 have x2 := hP.x.cell (i := 2) (v := .int .i64 0) rfl
 have g2 := hP.x.frozen 2
 have x3 := hP.x.cell (i := 3) (v := .int .i64 0) rfl
 have g3 := hP.x.frozen 3
 have x4 := hP.x.cell (i := 4) (v := .string ⟨#[]⟩) rfl
 have g4 := hP.x.frozen 4
 have HP := Lib.hid hP
 clear hP
 clear hx hr hB
 go_enter Tryz.func165, Tryz.ntmps165
 go_wp2_with fail
 refine (rnum_yes lo p 3 3 (some bs) st1 _ HP.out.rd hs (by omega) H1.out).mono ?_
 rintro e w1 ⟨rfl, hS⟩
 have hP := HP.out.step HBB.out hS
 clear hS HP
 clear q x0 x1 x2 x3 x4 g0 g1 g2 g3 g4
 have q := hP.box.cell (i := 0) (v := .pointer (some ⟨p, 0, none⟩)) rfl
 have x0 := hP.x.cell (i := 0) (v := .int .i64 0) rfl
 have g0 := hP.x.frozen 0
 have x1 := hP.x.cell (i := 1) (v := .int .i64 0) rfl
 have g1 := hP.x.frozen 1
 have x2 := hP.x.cell (i := 2) (v := .int .i64 0) rfl
 have g2 := hP.x.frozen 2
 have x3 := hP.x.cell (i := 3) (v := .int .i64 0) rfl
 have g3 := hP.x.frozen 3
 have x4 := hP.x.cell (i := 4) (v := .string ⟨#[]⟩) rfl
 have g4 := hP.x.frozen 4
 have HP := Lib.hid hP
 clear hP
 go_wp2_with fail
 have hP := HP.out.set HBB.out 0 (.int .i64 3)
 clear HP
 clear q x0 x1 x2 x3 x4 g0 g1 g2 g3 g4
 have q := hP.box.cell (i := 0) (v := .pointer (some ⟨p, 0, none⟩)) rfl
 have x0 := hP.x.cell (i := 0) (v := .int .i64 3) rfl
 have g0 := hP.x.frozen 0
 have x1 := hP.x.cell (i := 1) (v := .int .i64 0) rfl
 have g1 := hP.x.frozen 1
 have x2 := hP.x.cell (i := 2) (v := .int .i64 0) rfl
 have g2 := hP.x.frozen 2
 have x3 := hP.x.cell (i := 3) (v := .int .i64 0) rfl
 have g3 := hP.x.frozen 3
 have x4 := hP.x.cell (i := 4) (v := .string ⟨#[]⟩) rfl
 have g4 := hP.x.frozen 4
 have HP := Lib.hid hP
 clear hP
 refine (need_yes _).mono ?_
 rintro e wn ⟨rfl, rfl⟩
 go_wp2_with fail
 refine (rnum_yes lo p 4095 sl st1 st2 _ HP.out.rd hs1 (by omega) H4.out).mono ?_
 rintro e w2 ⟨rfl, hS⟩
 have hP := HP.out.step HBB.out hS
 clear hS HP
 clear q x0 x1 x2 x3 x4 g0 g1 g2 g3 g4
 have q := hP.box.cell (i := 0) (v := .pointer (some ⟨p, 0, none⟩)) rfl
 have x0 := hP.x.cell (i := 0) (v := .int .i64 3) rfl
 have g0 := hP.x.frozen 0
 have x1 := hP.x.cell (i := 1) (v := .int .i64 0) rfl
 have g1 := hP.x.frozen 1
 have x2 := hP.x.cell (i := 2) (v := .int .i64 0) rfl
 have g2 := hP.x.frozen 2
 have x3 := hP.x.cell (i := 3) (v := .int .i64 0) rfl
 have g3 := hP.x.frozen 3
 have x4 := hP.x.cell (i := 4) (v := .string ⟨#[]⟩) rfl
 have g4 := hP.x.frozen 4
 have HP := Lib.hid hP
 clear hP
 go_wp2_with fail
 have hP := HP.out.set HBB.out 3 (.int .i64 (sl : Int))
 clear HP
 clear q x0 x1 x2 x3 x4 g0 g1 g2 g3 g4
 have q := hP.box.cell (i := 0) (v := .pointer (some ⟨p, 0, none⟩)) rfl
 have x0 := hP.x.cell (i := 0) (v := .int .i64 3) rfl
 have g0 := hP.x.frozen 0
 have x1 := hP.x.cell (i := 1) (v := .int .i64 0) rfl
 have g1 := hP.x.frozen 1
 have x2 := hP.x.cell (i := 2) (v := .int .i64 0) rfl
 have g2 := hP.x.frozen 2
 have x3 := hP.x.cell (i := 3) (v := .int .i64 (sl : Int)) rfl
 have g3 := hP.x.frozen 3
 have x4 := hP.x.cell (i := 4) (v := .string ⟨#[]⟩) rfl
 have g4 := hP.x.frozen 4
 have HP := Lib.hid hP
 clear hP
 refine (rtext_any lo p st2 _ HP.out.rd hs2).mono ?_
 rintro e wt ⟨rfl, hS⟩
 have hP := HP.out.step HBB.out hS
 clear hS HP
 clear q x0 x1 x2 x3 x4 g0 g1 g2 g3 g4
 have q := hP.box.cell (i := 0) (v := .pointer (some ⟨p, 0, none⟩)) rfl
 have x0 := hP.x.cell (i := 0) (v := .int .i64 3) rfl
 have g0 := hP.x.frozen 0
 have x1 := hP.x.cell (i := 1) (v := .int .i64 0) rfl
 have g1 := hP.x.frozen 1
 have x2 := hP.x.cell (i := 2) (v := .int .i64 0) rfl
 have g2 := hP.x.frozen 2
 have x3 := hP.x.cell (i := 3) (v := .int .i64 (sl : Int)) rfl
 have g3 := hP.x.frozen 3
 have x4 := hP.x.cell (i := 4) (v := .string ⟨#[]⟩) rfl
 have g4 := hP.x.frozen 4
 have HP := Lib.hid hP
 clear hP
 go_wp2_with fail
 have hP := HP.out.set HBB.out 4 (.string (sB (rdT st2).1))
 clear HP
 clear q x0 x1 x2 x3 x4 g0 g1 g2 g3 g4
 have q := hP.box.cell (i := 0) (v := .pointer (some ⟨p, 0, none⟩)) rfl
 have x0 := hP.x.cell (i := 0) (v := .int .i64 3) rfl
 have g0 := hP.x.frozen 0
 have x1 := hP.x.cell (i := 1) (v := .int .i64 0) rfl
 have g1 := hP.x.frozen 1
 have x2 := hP.x.cell (i := 2) (v := .int .i64 0) rfl
 have g2 := hP.x.frozen 2
 have x3 := hP.x.cell (i := 3) (v := .int .i64 (sl : Int)) rfl
 have g3 := hP.x.frozen 3
 have x4 := hP.x.cell (i := 4) (v := .string (sB (rdT st2).1)) rfl
 have g4 := hP.x.frozen 4
 have HP := Lib.hid hP
 clear hP
 go_end0
 exact ⟨rfl, HP.out.rd, HP.out.fr, HP.out.x⟩
end Go.Proofs.YtlfikhblmbidmaaGreatDoor
namespace Go.Proofs.YtlfikhblmbidmaaGreatDoor
open Go.RowKit Go.Maps
abbrev recX (x : Rec) : Array Value := recC x.k x.ro x.no x.sl (sB x.v)
theorem rdN_cases (most : Nat) (st : Rd) : rdN most st = none ∨ ∃ n st', rdN most st = some (n, st') := by
 cases h : rdN most st with
 | none => exact .inl rfl
 | some y => exact .inr ⟨y.1, y.2, rfl⟩
theorem parse1_yes (lo p X : Nat) (bs : List UInt8) (w : World) (x : Rec) (st : Rd) (hB : PB w lo p X) (hx : Blk w X 121 recZ) (hr : RdAt w lo p (some bs)) (hs : Rsmall (some bs)) (h : readR (some bs) = some (x, st)) :
  Calls Tryz.prog 165 #[rdV p, .pointer (some ⟨X, 0, none⟩)] w fun e w' => e = .returned (.tuple #[]) ∧ RdAt w' lo p st ∧ Fr (Sor p X) w w' ∧ Blk w' X 121 (recX x) := by
 unfold readR at h
 simp only [Option.bind_eq_some_iff] at h
 obtain ⟨⟨k, s1⟩, h1, h2⟩ := h
 split at h2
 ·cases h2
 ·rename_i hk0
  simp only [Option.bind_eq_some_iff] at h2
  obtain ⟨⟨ro, no, s2⟩, hBb, ⟨sl, v, s3⟩, hS, he⟩ := h2
  cases he
  have hk3 := (rdN_dec h1).2
  simp only at hk0
  have hk : k = 1 ∨ k = 2 ∨ k = 3 := by omega
  rcases hk with rfl | rfl | rfl
  ·simp only [readB, if_neg (show ¬ (1 = 3) by decide), Option.bind_eq_some_iff] at hBb
   obtain ⟨⟨a, s4⟩, h2, ⟨c, s5⟩, h3, hb⟩ := hBb
   split at hb
   ·rename_i hro
    cases hb
    simp only [readS, if_true] at hS
    cases hS
    exact par_1 lo p X _ _ s1 s4 _ bs w hB hx hr hs h1 h2 h3 hro
   ·cases hb
  ·simp only [readB, if_neg (show ¬ (2 = 3) by decide), Option.bind_eq_some_iff] at hBb
   obtain ⟨⟨a, s4⟩, h2, ⟨c, s5⟩, h3, hb⟩ := hBb
   split at hb
   ·rename_i hro
    cases hb
    simp only [readS, if_neg (show ¬ (2 = 1) by decide), Option.bind_eq_some_iff] at hS
    obtain ⟨⟨a, s6⟩, h4, hb2⟩ := hS
    cases hb2
    exact par_2 lo p X _ _ _ s1 s4 _ s6 bs w hB hx hr hs h1 h2 h3 h4 hro
   ·cases hb
  ·simp only [readB, if_true] at hBb
   cases hBb
   simp only [readS, if_neg (show ¬ (3 = 1) by decide), Option.bind_eq_some_iff] at hS
   obtain ⟨⟨a, s6⟩, h4, hb2⟩ := hS
   cases hb2
   exact par_3 lo p X _ s1 s6 bs w hB hx hr hs h1 h4
theorem parse1_no (lo p X : Nat) (bs : List UInt8) (w : World) (hB : PB w lo p X) (hx : Blk w X 121 recZ) (hr : RdAt w lo p (some bs)) (hs : Rsmall (some bs)) (h : readR (some bs) = none) :
  Calls Tryz.prog 165 #[rdV p, .pointer (some ⟨X, 0, none⟩)] w fun e w' => e = .panicked malC ∧ Fr (Sor p X) w w' := by
 rcases rdN_cases 3 (some bs) with h1 | ⟨k, s1, h1⟩
 ·exact par_n lo p X bs w hB hx hr hs h1
 ·have hk3 := (rdN_dec h1).2
  have hk : k = 0 ∨ k = 1 ∨ k = 2 ∨ k = 3 := by omega
  rcases hk with rfl | rfl | rfl | rfl
  ·exact par_0 lo p X s1 bs w hB hx hr hs h1
  ·rcases rdN_cases 1073741824 s1 with h2 | ⟨ro, s2, h2⟩
   ·exact par_1b1 lo p X s1 bs w hB hx hr hs h1 h2
   ·rcases rdN_cases 6 s2 with h3 | ⟨no, s3, h3⟩
    ·exact par_1b2 lo p X ro s1 s2 bs w hB hx hr hs h1 h2 h3
    ·by_cases hro : 1 ≤ ro
     ·simp [readR, h1, readB, h2, h3, hro, readS] at h
     ·exact par_1c lo p X ro no s1 s2 s3 bs w hB hx hr hs h1 h2 h3 (by omega)
  ·rcases rdN_cases 1073741824 s1 with h2 | ⟨ro, s2, h2⟩
   ·exact par_2b1 lo p X s1 bs w hB hx hr hs h1 h2
   ·rcases rdN_cases 6 s2 with h3 | ⟨no, s3, h3⟩
    ·exact par_2b2 lo p X ro s1 s2 bs w hB hx hr hs h1 h2 h3
    ·by_cases hro : 1 ≤ ro
     ·rcases rdN_cases 4095 s3 with h4 | ⟨sl, s4, h4⟩
      ·exact par_2s lo p X ro no s1 s2 s3 bs w hB hx hr hs h1 h2 h3 h4 hro
      ·simp [readR, h1, readB, h2, h3, hro, readS, h4] at h
     ·exact par_2c lo p X ro no s1 s2 s3 bs w hB hx hr hs h1 h2 h3 (by omega)
  ·rcases rdN_cases 4095 s1 with h4 | ⟨sl, s4, h4⟩
   ·exact par_3s lo p X s1 bs w hB hx hr hs h1 h4
   ·simp [readR, h1, readB, readS, h4] at h
theorem recZ_blk (w : World) : Blk ((w.alloc (.cells recZ 121)).alloc (.cells recZ 121)) (w.heap.size + 1) 121 recZ := blk_new1 _ _ _ _
set_option maxRecDepth 100000 in
set_option maxHeartbeats 2000000 in
theorem parse_long (v : Value) (bs : List UInt8) (w : World) (hv : BsIn w v bs) (hl : 65536 < bs.length) :
  Calls Tryz.prog 74 #[v] w fun e w' => e = .returned (.tuple #[.agg recZ, .bool false]) ∧ Below w.heap.size w w' := by
 obtain ⟨A, c, rfl, hle, hcm⟩ := hv.shape
 have hmf : ∀ (fn : Fn) (first cap : Array Value) (w : World), (Instr.makeFunc fn first cap).run Tryz.prog w = .ok (.func fn first cap) w := fun _ _ _ _ => rfl
 clear hv
 go_enter Tryz.func74, Tryz.ntmps74
 go_wp2_with fail
 refine bodyPost_ret (v := .tuple #[.agg recZ, .bool false]) (by simp [results, Tryz.results74, go_sem]; try rfl) rfl ?_
 exact ⟨rfl, ((Below.refl _ w).alloc (Nat.le_refl _) _).alloc (by simp) _⟩
theorem parse_bel {w W : World} (h : Fr (S1 (w.heap.size + 1)) ((w.alloc (.cells recZ 121)).alloc (.cells recZ 121)) W) : Below w.heap.size w W :=
 (((Below.refl _ w).alloc (Nat.le_refl _) _).alloc (by simp) _).trans (h.below (by simp; omega) (fun i e => by have e : i = w.heap.size + 1 := e; omega))
set_option maxRecDepth 100000 in
set_option maxHeartbeats 2000000 in
theorem parse_false (v : Value) (bs : List UInt8) (w : World) (hv : BsIn w v bs) (hl : bs.length ≤ 65536)
  (hR : ∀ W, Below w.heap.size w W → Blk W (w.heap.size + 1) 121 recZ → Calls Tryz.prog 71 #[v, .func (.func 165) #[] #[.pointer (some ⟨w.heap.size + 1, 0, none⟩)]] W fun e W' => e = .returned (.bool false) ∧ Fr (S1 (w.heap.size + 1)) W W') :
  Calls Tryz.prog 74 #[v] w fun e w' => e = .returned (.tuple #[.agg recZ, .bool false]) ∧ Below w.heap.size w w' := by
 obtain ⟨A, c, rfl, hle, hcm⟩ := hv.shape
 have hmf : ∀ (fn : Fn) (first cap : Array Value) (w : World), (Instr.makeFunc fn first cap).run Tryz.prog w = .ok (.func fn first cap) w := fun _ _ _ _ => rfl
 have HC := Lib.hid (hR _ (((Below.refl _ w).alloc (Nat.le_refl _) _).alloc (by simp) _) (recZ_blk w))
 have hr0 := (Blk.new w 121 recZ).alloc (.cells recZ 121)
 have HR0 := Lib.hid hr0
 clear hv hR hr0
 go_enter Tryz.func74, Tryz.ntmps74
 go_wp2_with (go_at_call 71; refine HC.out.mono ?_; rintro e w2 ⟨rfl, f2⟩; have hr := HR0.out.fr f2 (fun e => by have e : w.heap.size = w.heap.size + 1 := e; omega); have x0 := hr.cell (i := 0) (v := .int .i64 0) rfl; have x1 := hr.cell (i := 1) (v := .int .i64 0) rfl; have x2 := hr.cell (i := 2) (v := .int .i64 0) rfl; have x3 := hr.cell (i := 3) (v := .int .i64 0) rfl; have x4 := hr.cell (i := 4) (v := .string ⟨#[]⟩) rfl; have g0 := hr.frozen 0; have g1 := hr.frozen 1; have g2 := hr.frozen 2; have g3 := hr.frozen 3; have g4 := hr.frozen 4; have HF2 := Lib.hid f2; have HRR := Lib.hid hr; clear f2 hr)
 refine bodyPost_ret (v := .tuple #[.agg recZ, .bool false]) (by simp [results, Tryz.results74, go_sem, x0, x1, x2, x3, x4, g0, g1, g2, g3, g4, recX]; try rfl) rfl ?_
 refine ⟨rfl, ?_⟩
 repeat (refine Below.setCell ?_ (by simp) _)
 exact parse_bel HF2.out
set_option maxRecDepth 100000 in
set_option maxHeartbeats 2000000 in
theorem parse_true (v : Value) (bs : List UInt8) (x : Rec) (w : World) (hv : BsIn w v bs) (hl : bs.length ≤ 65536)
  (hR : ∀ W, Below w.heap.size w W → Blk W (w.heap.size + 1) 121 recZ → Calls Tryz.prog 71 #[v, .func (.func 165) #[] #[.pointer (some ⟨w.heap.size + 1, 0, none⟩)]] W fun e W' => e = .returned (.bool true) ∧ Fr (S1 (w.heap.size + 1)) W W' ∧ Blk W' (w.heap.size + 1) 121 (recX x)) :
  Calls Tryz.prog 74 #[v] w fun e w' => e = .returned (.tuple #[.agg (recX x), .bool true]) ∧ Below w.heap.size w w' := by
 obtain ⟨A, c, rfl, hle, hcm⟩ := hv.shape
 have hmf : ∀ (fn : Fn) (first cap : Array Value) (w : World), (Instr.makeFunc fn first cap).run Tryz.prog w = .ok (.func fn first cap) w := fun _ _ _ _ => rfl
 have HC := Lib.hid (hR _ (((Below.refl _ w).alloc (Nat.le_refl _) _).alloc (by simp) _) (recZ_blk w))
 have hr0 := (Blk.new w 121 recZ).alloc (.cells recZ 121)
 have HR0 := Lib.hid hr0
 clear hv hR hr0
 go_enter Tryz.func74, Tryz.ntmps74
 go_wp2_with (go_at_call 71; refine HC.out.mono ?_; rintro e w2 ⟨rfl, f2, hb2⟩; have hr := HR0.out.fr f2 (fun e => by have e : w.heap.size = w.heap.size + 1 := e; omega); have x0 := hr.cell (i := 0) (v := .int .i64 0) rfl; have x1 := hr.cell (i := 1) (v := .int .i64 0) rfl; have x2 := hr.cell (i := 2) (v := .int .i64 0) rfl; have x3 := hr.cell (i := 3) (v := .int .i64 0) rfl; have x4 := hr.cell (i := 4) (v := .string ⟨#[]⟩) rfl; have g0 := hr.frozen 0; have g1 := hr.frozen 1; have g2 := hr.frozen 2; have g3 := hr.frozen 3; have g4 := hr.frozen 4; have y0 := hb2.cell (i := 0) (v := .int .i64 (x.k : Int)) rfl; have y1 := hb2.cell (i := 1) (v := .int .i64 (x.ro : Int)) rfl; have y2 := hb2.cell (i := 2) (v := .int .i64 (x.no : Int)) rfl; have y3 := hb2.cell (i := 3) (v := .int .i64 (x.sl : Int)) rfl; have y4 := hb2.cell (i := 4) (v := .string (sB x.v)) rfl; have HF2 := Lib.hid f2; have HRR := Lib.hid hr; clear f2 hr hb2)
 refine bodyPost_ret (v := .tuple #[.agg (recX x), .bool true]) (by simp [results, Tryz.results74, go_sem, x0, x1, x2, x3, x4, g0, g1, g2, g3, g4, recX]; try rfl) rfl ?_
 refine ⟨rfl, ?_⟩
 repeat (refine Below.setCell ?_ (by simp) _)
 exact parse_bel HF2.out
theorem parse_none (v : Value) (bs : List UInt8) (w : World) (hv : BsIn w v bs) (hl : bs.length ≤ 100000000) (h : parseP bs = none) :
  Calls Tryz.prog 74 #[v] w fun e w' => e = .returned (.tuple #[.agg recZ, .bool false]) ∧ Below w.heap.size w w' := by
 unfold parseP at h
 split at h
 ·rename_i h6
  exact parse_long v bs w hv h6
 ·rename_i h6
  have h6 : bs.length ≤ 65536 := by omega
  have hs : Rsmall (some bs) := fun b e => by cases e; omega
  refine parse_false v bs w hv h6 (fun W hW hx => ?_)
  cases hq : readR (some bs) with
  | none => exact readingP_mal (w.heap.size + 1) v bs W hx.lt (hv.below hW) hl (fun W2 p hW2 hr => parse1_no _ p _ bs W2 ⟨by have := hx.lt; omega, hr.lo, hr.lt⟩ (hx.of_block (hW2.block _ hx.lt)) hr hs hq)
  | some y =>
   obtain ⟨x, st⟩ := y
   rw [hq] at h
   have hst : st ≠ some [] := by
    rintro rfl
    cases h
   have := readingP_ret (w.heap.size + 1) v bs W st (fun _ => True) hx.lt (hv.below hW) hl (fun W2 p hW2 hr => (parse1_yes _ p _ bs W2 x st ⟨by have := hx.lt; omega, hr.lo, hr.lt⟩ (hx.of_block (hW2.block _ hx.lt)) hr hs hq).mono (fun e w' h => ⟨h.1, h.2.1, h.2.2.1, trivial⟩)) (fun _ _ _ _ => trivial)
   rw [endE_other st hst] at this
   exact this.mono (fun e w' h => ⟨h.1, h.2.1⟩)
theorem parse_some (v : Value) (bs : List UInt8) (x : Rec) (w : World) (hv : BsIn w v bs) (hl : bs.length ≤ 100000000) (h : parseP bs = some x) :
  Calls Tryz.prog 74 #[v] w fun e w' => e = .returned (.tuple #[.agg (recX x), .bool true]) ∧ Below w.heap.size w w' := by
 unfold parseP at h
 split at h
 ·cases h
 ·rename_i h6
  have h6 : bs.length ≤ 65536 := by omega
  have hs : Rsmall (some bs) := fun b e => by cases e; omega
  refine parse_true v bs x w hv h6 (fun W hW hx => ?_)
  split at h
  ·rename_i y hq
   cases h
   have := readingP_ret (w.heap.size + 1) v bs W (some []) (fun W => Blk W (w.heap.size + 1) 121 (recX x)) hx.lt (hv.below hW) hl (fun W2 p hW2 hr => parse1_yes _ p _ bs W2 x (some []) ⟨by have := hx.lt; omega, hr.lo, hr.lt⟩ (hx.of_block (hW2.block _ hx.lt)) hr hs hq) (fun A B f hA => hA.fr f (fun e => by have e : w.heap.size + 1 = W.heap.size := e; have := hx.lt; omega))
   rw [(endE_iff _).2 rfl] at this
   exact this
  ·cases h
end Go.Proofs.YtlfikhblmbidmaaGreatDoor
namespace Go.Proofs.YtlfikhblmbidmaaGreatDoor
open Go.RowKit Go.Maps
end Go.Proofs.YtlfikhblmbidmaaGreatDoor