/- Laid together by gen/merge.py: FrmA FrmB FrmC FrmD FrmE FrmF FrmG FrmH FrmI. -/
import Derived.Test.YtlfikhblmbidmaaGreatDoorMrgB
import Derived.Deep.Onto
import Derived.Lib.AppendZerosOnto
import Derived.Lib.AppendZeros
import Derived.Test.YtlfikhblmbidmaaGreatDoorMrgA
set_option linter.all false
namespace Go.Proofs.YtlfikhblmbidmaaGreatDoor
open Go.RowKit Go.Maps
theorem beNat_snoc (l : List UInt8) (c : UInt8) : beNat (l ++ [c]) = beNat l * 256 + c.toNat := by simp [beNat]
theorem beNat_lt_pow : ∀ (l : List UInt8), beNat l < 256 ^ l.length := by
 intro l
 induction hn : l.length generalizing l with
 | zero => rw [List.length_eq_zero_iff.1 hn]; decide
 | succ n ih =>
  have hne : l ≠ [] := by intro e; rw [e] at hn; cases hn
  rw [← List.dropLast_concat_getLast hne, beNat_snoc]
  have := ih l.dropLast (by simp; omega)
  have h2 := (l.getLast hne).toNat_lt
  rw [Nat.pow_succ]
  omega
set_option maxRecDepth 100000 in
set_option maxHeartbeats 1000000 in
theorem four_any (B b off cap i : Nat) (bs : List UInt8) (w : World) (hB : w.cell? ⟨B, 0, none⟩ = some (.slice (some ⟨b, off, none⟩) bs.length cap)) (hle : bs.length ≤ cap) (hm : bs.length ≤ 9000000000) (hi : i + 4 ≤ bs.length)
  (hc : ∀ j z, bs[j]? = some z → w.cell? ⟨b, off + j, none⟩ = some (u8V z)) :
  Calls Tryz.prog 247 #[.int .i64 (i : Int), .pointer (some ⟨B, 0, none⟩)] w fun e w' => e = .returned (.int .u32 (beNat ((bs.drop i).take 4) : Nat)) ∧ w = w' := by
 go_enter Tryz.func247, Tryz.ntmps247
 go_wp2_with fail
 rw [show i + 4 - i = 4 by omega]
 go_loop [4, 13] (fun n c => ∃ k : Nat, k ≤ 4 ∧ c = .int .i64 k ∧ n = .int .u32 (beNat ((bs.drop i).take k) : Nat)) (fun _ c => 4 - (intOf c).toNat)
 case atStart => exact ⟨0, by omega, rfl, rfl⟩
 case round =>
  obtain ⟨k, hk, rfl, rfl⟩ := hrel
  by_cases hlt : k < 4
  ·obtain ⟨z, hz⟩ : ∃ z, bs[i + k]? = some z := ⟨_, List.getElem?_eq_getElem (by omega)⟩
   have hcz := hc _ z hz
   rw [← Nat.add_assoc] at hcz
   have e1 : (bs.drop i).take (k + 1) = (bs.drop i).take k ++ [z] := by
    rw [List.take_add_one, List.getElem?_drop, hz]; rfl
   have hl := beNat_lt_pow ((bs.drop i).take k)
   have hlen : ((bs.drop i).take k).length = k := by simp; omega
   rw [hlen] at hl
   have hp : 256 ^ k ≤ 256 ^ 3 := Nat.pow_le_pow_right (by decide) (by omega)
   have e2 := beNat_snoc ((bs.drop i).take k) z
   rw [← e1] at e2
   have hzt := z.toNat_lt
   have h24 : (256 : Nat) ^ 3 = 16777216 := by decide
   have E2 := Lib.hid e2
   clear e1 e2
   generalize beNat ((bs.drop i).take k) = n at *
   go_wp2_with fail
   have hn : n < 16777216 := by omega
   have e9 : bits .or .u32 ((n : Int) * 256) (z.toNat : Int) = ((beNat ((bs.drop i).take (k + 1)) : Nat) : Int) := by
    have h1 := u32_or_nat (n * 256) z.toNat (by omega) (by omega)
    rw [nat_join 8 _ _ (by omega) (by omega)] at h1
    rw [E2.out, ← h1]
    push_cast
    rfl
   rw [e9]
   exact ⟨⟨k + 1, by omega, by push_cast; rfl, rfl⟩, by simp [intOf]; omega⟩
  ·obtain rfl : k = 4 := by omega
   go_wp2_with fail
   go_returns
   exact ⟨rfl, rfl⟩
end Go.Proofs.YtlfikhblmbidmaaGreatDoor
namespace Go.Proofs.YtlfikhblmbidmaaGreatDoor
open Go.RowKit Go.Maps
set_option maxRecDepth 100000 in
set_option maxHeartbeats 2000000 in
theorem sclone_any (v : Value) (bs : List UInt8) (w : World) (h : BsIn w v bs) (hl : bs.length ≤ 100000000) :
  Calls Tryz.prog 96 #[v] w fun e w' => ∃ vo, e = .returned vo ∧ w'.ownsRow w.heap.size 5 1 vo bs.length (bs.map u8V) ∧ Below w.heap.size w w' := by
 obtain ⟨i0, hi, hz0, hz1, hz2⟩ := info_parts info_u8
 have HI := Lib.hid hi
 have HZ0 := Lib.hid hz0
 have HZ1 := Lib.hid hz1
 have HZ2 := Lib.hid hz2
 clear hi hz0 hz1 hz2
 obtain ⟨A0, cap0, rfl, hcap0, hmax0, hcells⟩ := h
 have hq : ∀ (w : World) (a : Option Addr) (n c n' c' : Nat), (binOp .eql 26 (.slice a n c) (.slice none n' c')).run Tryz.prog w = .ok (.bool a.isNone) w := fun w a n c n' c' => Lib.run_eql_slice_nil w _ _ a n c n' c' Tryz.underlying26
 cases A0 with
 | none =>
  have hL : bs = [] := by
   cases bs with
   | nil => rfl
   | cons x r =>
    obtain ⟨b, off, e, _⟩ := hcells (by simp)
    cases e
  subst hL
  clear hcells
  go_enter Tryz.func96, Tryz.ntmps96
  go_wp2_with fail
  go_returns
  exact ⟨_, rfl, ⟨rfl, .inl ⟨rfl, rfl⟩⟩, Below.refl _ _⟩
 | some a =>
  have hfl : Hid (∀ j u, (bs.map u8V)[j]? = some u → w.cell? (a.add j) = some u) := fun j u hu => by
   rw [List.getElem?_map] at hu
   cases hz : bs[j]? with
   | none => rw [hz] at hu; cases hu
   | some z =>
    rw [hz] at hu
    cases hu
    obtain ⟨b, off, e, _, hc⟩ := hcells (by have := (List.getElem?_eq_some_iff.1 hz).1; omega)
    cases e
    rw [Addr.add_lit]
    exact hc j z hz
  have HFN := Lib.hid (show (bs.map u8V).length = bs.length * 1 by simp)
  clear hcells
  go_enter Tryz.func96, Tryz.ntmps96
  go_wp2_with (first
   | (at_builtin; refine wpList_append_own_at _ rfl _ _ 26 rfl w.heap.size 5 i0 (.int .u8 0) 1 1 Tryz.underlying26 HI.out HZ0.out HZ1.out HZ2.out rfl (by decide) _ 0 [] rfl (World.ownsRow_made w #[] 0 (Nat.le_refl _) (Nat.zero_le _) (by simp)) a bs.length cap0 (bs.map u8V) rfl HFN.out (fun j u hu => Lib.cell?_alloc_some _ (hfl.out j u hu)) (u8_one bs) (by unfold maxLen; omega) (by omega) (by simp) ?_; intro v9 w9 hown' hgrow _ hoa; have HOWN := Lib.hid hown'; have HGR := Lib.hid hgrow; clear hown' hgrow hoa))
  go_returns
  refine ⟨_, rfl, by simpa using HOWN.out, ?_⟩
  have f9 : Fr (S1 w.heap.size) (w.alloc (.cells #[] 5)) w9 := Fr.of_grown HGR.out (fun i e => by cases e; rfl)
  exact Fr.upB ((Below.refl _ w).alloc (Nat.le_refl _) _) f9 (fun i e => by have e : i = w.heap.size := e; omega)
end Go.Proofs.YtlfikhblmbidmaaGreatDoor
namespace Go.Proofs.YtlfikhblmbidmaaGreatDoor
open Go.RowKit Go.Maps
abbrev frV (at_ : Int) (v : Value) : Value := .agg #[.int .i64 at_, v]
set_option maxRecDepth 100000 in
set_option maxHeartbeats 2000000 in
theorem next_short (v : Value) (bs : List UInt8) (k : Nat) (w : World) (hv : BsIn w v bs) (hl : bs.length ≤ 100000000) (hk : k ≤ bs.length) (h8 : bs.length - k < 8) :
  Calls Tryz.prog 234 #[v, .int .i64 (k : Int)] w fun e w' => ∃ c, e = .returned (.tuple #[frV 0 (.slice none 0 0), .int .i64 0, .int .i64 c]) ∧ c ≠ 0 ∧ Below w.heap.size w w' := by
 obtain ⟨A, cap, rfl, hle, hmax, hcells⟩ := hv
 go_enter Tryz.func234, Tryz.ntmps234
 go_wp2_with fail
 all_goals
  have r0 := (Blk.new (w.alloc (.cells #[.slice A bs.length cap] 26)) 251 #[.int .i64 0, .slice none 0 0]).cell (i := 0) (v := .int .i64 0) rfl
  have r1 := (Blk.new (w.alloc (.cells #[.slice A bs.length cap] 26)) 251 #[.int .i64 0, .slice none 0 0]).cell (i := 1) (v := .slice none 0 0) rfl
  rw [World.size_alloc] at r0 r1
  refine bodyPost_ret (by simp [results, Tryz.results234, go_sem, r0, r1]; try rfl) rfl ?_
  exact ⟨_, rfl, by decide, ((Below.refl _ w).alloc (Nat.le_refl _) _).alloc (by simp) _⟩
theorem four_box (b off cap i : Nat) (bs : List UInt8) (w w0 : World) (hb : b < w0.heap.size) (hle : bs.length ≤ cap) (hi : i + 4 ≤ bs.length) (hm : bs.length ≤ 9000000000)
  (hc : ∀ j z, bs[j]? = some z → w0.cell? ⟨b, off + j, none⟩ = some (u8V z)) (hbw : Below w0.heap.size w0 w) (hB : Blk w w0.heap.size 26 #[.slice (some ⟨b, off, none⟩) bs.length cap]) :
  Calls Tryz.prog 247 #[.int .i64 (i : Int), .pointer (some ⟨w0.heap.size, 0, none⟩)] w fun e w' => e = .returned (.int .u32 (beNat ((bs.drop i).take 4) : Nat)) ∧ w = w' :=
 four_any w0.heap.size b off cap i bs w (hB.cell rfl) hle hm hi (fun j z hz => (hbw.cell (p := ⟨b, off + j, none⟩) hb).trans (hc j z hz))
set_option maxRecDepth 100000 in
set_option maxHeartbeats 2000000 in
theorem next_big (v : Value) (bs : List UInt8) (k : Nat) (w : World) (hv : BsIn w v bs) (hl : bs.length ≤ 100000000) (hk : k + 8 ≤ bs.length) (hbig : 65536 < beNat ((bs.drop k).take 4) ∨ bs.length - k - 8 < beNat ((bs.drop k).take 4)) :
  Calls Tryz.prog 234 #[v, .int .i64 (k : Int)] w fun e w' => ∃ c, e = .returned (.tuple #[frV 0 (.slice none 0 0), .int .i64 0, .int .i64 c]) ∧ c ≠ 0 ∧ Below w.heap.size w w' := by
 obtain ⟨A, cap, rfl, hle, hmax, hcells⟩ := hv
 obtain ⟨b, off, rfl, hb, hc⟩ := hcells (by omega)
 have HF := Lib.hid (fun w1 h1 h2 => four_box b off cap k bs w1 w hb hle (by omega) (by omega) hc h1 h2)
 have hn := beNat_lt ((bs.drop k).take 4) (by simp; omega)
 generalize beNat ((bs.drop k).take 4) = n at *
 clear hc hcells
 go_enter Tryz.func234, Tryz.ntmps234
 go_wp2_with (go_at_call 247; refine (HF.out _ (((Below.refl _ w).alloc (Nat.le_refl _) _).alloc (by simp) _) ((Blk.new w 26 #[.slice (some ⟨b, off, none⟩) bs.length cap]).alloc _)).mono ?_; rintro e w2 ⟨rfl, rfl⟩)
 all_goals
  have r0 := (Blk.new (w.alloc (.cells #[.slice (some ⟨b, off, none⟩) bs.length cap] 26)) 251 #[.int .i64 0, .slice none 0 0]).cell (i := 0) (v := .int .i64 0) rfl
  have r1 := (Blk.new (w.alloc (.cells #[.slice (some ⟨b, off, none⟩) bs.length cap] 26)) 251 #[.int .i64 0, .slice none 0 0]).cell (i := 1) (v := .slice none 0 0) rfl
  rw [World.size_alloc] at r0 r1
  refine bodyPost_ret (by simp [results, Tryz.results234, go_sem, r0, r1]; try rfl) rfl ?_
  exact ⟨_, rfl, by decide, ((Below.refl _ w).alloc (Nat.le_refl _) _).alloc (by simp) _⟩
end Go.Proofs.YtlfikhblmbidmaaGreatDoor
namespace Go.Proofs.YtlfikhblmbidmaaGreatDoor
open Go.RowKit Go.Maps
theorem bs_sub {w : World} {b off cap i n : Nat} {bs : List UInt8} (hb : b < w.heap.size) (hi : i + n ≤ bs.length)
  (hc : ∀ j z, bs[j]? = some z → w.cell? ⟨b, off + j, none⟩ = some (u8V z)) (A : Option Addr) (c : Nat) (hA : n = 0 ∨ A = some ⟨b, off + i, none⟩) (hn : n ≤ c) (hmax : c ≤ maxLen) : BsIn w (.slice A n c) ((bs.drop i).take n) := by
 have hl : ((bs.drop i).take n).length = n := by simp; omega
 refine ⟨A, c, by rw [hl], by omega, by omega, fun h0 => ?_⟩
 rw [hl] at h0
 obtain rfl := hA.resolve_left (by omega)
 refine ⟨b, off + i, rfl, hb, fun j z hj => ?_⟩
 rw [List.getElem?_take] at hj
 split at hj
 ·rw [List.getElem?_drop] at hj
  rw [Nat.add_assoc]
  exact hc _ _ hj
 ·cases hj
set_option maxRecDepth 100000 in
set_option maxHeartbeats 2000000 in
theorem next_bad (v : Value) (bs : List UInt8) (k n s : Nat) (w : World) (hv : BsIn w v bs) (hF0 : FoursAt w) (hl : bs.length ≤ 100000000) (hk : k + 8 + n ≤ bs.length) (hn : beNat ((bs.drop k).take 4) = n) (h6 : n ≤ 65536)
  (hs : beNat ((bs.drop (k + 4)).take 4) = s) (hne : crcSum ((bs.drop (k + 8)).take n) ≠ s) :
  Calls Tryz.prog 234 #[v, .int .i64 (k : Int)] w fun e w' => ∃ c, e = .returned (.tuple #[frV 0 (.slice none 0 0), .int .i64 0, .int .i64 c]) ∧ c ≠ 0 ∧ Below w.heap.size w w' := by
 obtain ⟨A, cap, rfl, hle, hmax, hcells⟩ := hv
 obtain ⟨b, off, rfl, hb, hc⟩ := hcells (by omega)
 have HF := Lib.hid (fun w1 h1 h2 => four_box b off cap k bs w1 w hb hle (by omega) (by omega) hc h1 h2)
 have HG := Lib.hid (fun w1 h1 h2 => four_box b off cap (k + 4) bs w1 w hb hle (by omega) (by omega) hc h1 h2)
 rw [hn] at HF
 rw [hs] at HG
 have hd : decide (crcSum ((bs.drop (k + 8)).take n) = s) = false := by simp [hne]
 have HSUB := Lib.hid (bs_sub (n := n) (i := k + 8) (cap := cap) hb (by omega) hc)
 obtain ⟨W2, hW2⟩ : ∃ W2, (w.alloc (.cells #[.slice (some ⟨b, off, none⟩) bs.length cap] 26)).alloc (.cells #[.int .i64 0, .slice none 0 0] 251) = W2 := ⟨_, rfl⟩
 have HB2 : Hid (Below w.heap.size w W2) := by rw [← hW2]; exact ((Below.refl _ w).alloc (Nat.le_refl _) _).alloc (by simp) _
 have HBL : Hid (Blk W2 w.heap.size 26 #[.slice (some ⟨b, off, none⟩) bs.length cap]) := by rw [← hW2]; exact (Blk.new w _ _).alloc _
 have HBR : Hid (Blk W2 (w.heap.size + 1) 251 #[.int .i64 0, .slice none 0 0]) := by
  rw [← hW2]; have := Blk.new (w.alloc (.cells #[.slice (some ⟨b, off, none⟩) bs.length cap] 26)) 251 #[.int .i64 0, .slice none 0 0]; rwa [World.size_alloc] at this
 have HG4 : Hid (Calls Tryz.prog 247 #[.int .i64 ((k : Int) + 4), .pointer (some ⟨w.heap.size, 0, none⟩)] W2 fun e w' => e = .returned (.int .u32 (s : Nat)) ∧ W2 = w') := HG.out _ HB2.out HBL.out
 have HF4 := Lib.hid (HF.out _ HB2.out HBL.out)
 have HCK := Lib.hid (fun A c (h1 : n = 0 ∨ A = some (⟨b, off + (k + 8), none⟩ : Addr)) h2 h3 => crcCheck_any _ _ s W2 ((HSUB.out A c h1 h2 h3).below HB2.out) (hF0.below HB2.out))
 rw [hd] at HCK
 have HW2 := Lib.hid hW2
 have q0 := HBL.out.cell (i := 0) rfl
 clear HF HG HSUB hW2
 clear hc hcells hne
 go_enter Tryz.func234, Tryz.ntmps234
 go_wp2_with fail
 rw [HW2.out]
 go_wp2_with (first
  | (go_at_call 247; refine HF4.out.mono ?_; clear HF4; rintro e w2 ⟨rfl, rfl⟩)
  | (go_at_call 247; refine HG4.out.mono ?_; clear HG4; rintro e w2 ⟨rfl, rfl⟩)
  | (go_at_call 248; refine (HCK.out _ _ (by first | exact Or.inr rfl | (left; omega)) (by omega) (by omega)).mono ?_; rintro e w3 ⟨rfl, b3⟩; have HB3 := Lib.hid b3; have hr3 := HBR.out.of_block (b3.block _ HBR.out.lt); have r0 := hr3.cell (i := 0) (v := .int .i64 0) rfl; have r1 := hr3.cell (i := 1) (v := .slice none 0 0) rfl; have r2 := hr3.frozen 0; have r3 := hr3.frozen 1; clear b3))
 all_goals
  refine bodyPost_ret (by simp [results, Tryz.results234, go_sem, r0, r1, r2, r3]; try rfl) rfl ?_
  refine ⟨_, rfl, by decide, ?_⟩
  repeat (refine Below.setCell ?_ (by simp) _)
  exact HB2.out.trans (HB3.out.mono HB2.out.size)
set_option maxRecDepth 100000 in
set_option maxHeartbeats 2000000 in
theorem next_yes (v : Value) (bs : List UInt8) (k n : Nat) (w : World) (hv : BsIn w v bs) (hF0 : FoursAt w) (hl : bs.length ≤ 100000000) (hk : k + 8 + n ≤ bs.length) (hn : beNat ((bs.drop k).take 4) = n) (h6 : n ≤ 65536)
  (hs : crcSum ((bs.drop (k + 8)).take n) = beNat ((bs.drop (k + 4)).take 4)) :
  Calls Tryz.prog 234 #[v, .int .i64 (k : Int)] w fun e w' => ∃ vo, e = .returned (.tuple #[frV k vo, .int .i64 ((k + 8 + n : Nat) : Int), .int .i64 0]) ∧
   w'.ownsRow w.heap.size 5 1 vo n (((bs.drop (k + 8)).take n).map u8V) ∧ Below w.heap.size w w' := by
 obtain ⟨A, cap, rfl, hle, hmax, hcells⟩ := hv
 obtain ⟨b, off, rfl, hb, hc⟩ := hcells (by omega)
 obtain ⟨s, hs2⟩ : ∃ s, beNat ((bs.drop (k + 4)).take 4) = s := ⟨_, rfl⟩
 rw [hs2] at hs
 have HF := Lib.hid (fun w1 h1 h2 => four_box b off cap k bs w1 w hb hle (by omega) (by omega) hc h1 h2)
 have HG := Lib.hid (fun w1 h1 h2 => four_box b off cap (k + 4) bs w1 w hb hle (by omega) (by omega) hc h1 h2)
 rw [hn] at HF
 rw [hs2] at HG
 have hd : decide (crcSum ((bs.drop (k + 8)).take n) = s) = true := by simp [hs]
 have HSUB := Lib.hid (bs_sub (n := n) (i := k + 8) (cap := cap) hb (by omega) hc)
 have hcl : ((bs.drop (k + 8)).take n).length = n := by simp; omega
 generalize (bs.drop (k + 8)).take n = cs at *
 obtain ⟨W2, hW2⟩ : ∃ W2, (w.alloc (.cells #[.slice (some ⟨b, off, none⟩) bs.length cap] 26)).alloc (.cells #[.int .i64 0, .slice none 0 0] 251) = W2 := ⟨_, rfl⟩
 have HB2 : Hid (Below w.heap.size w W2) := by rw [← hW2]; exact ((Below.refl _ w).alloc (Nat.le_refl _) _).alloc (by simp) _
 have HSZ : Hid (w.heap.size + 2 = W2.heap.size) := by rw [← hW2]; show _ = _; simp
 have HBL : Hid (Blk W2 w.heap.size 26 #[.slice (some ⟨b, off, none⟩) bs.length cap]) := by rw [← hW2]; exact (Blk.new w _ _).alloc _
 have HBR : Hid (Blk W2 (w.heap.size + 1) 251 #[.int .i64 0, .slice none 0 0]) := by
  rw [← hW2]; have := Blk.new (w.alloc (.cells #[.slice (some ⟨b, off, none⟩) bs.length cap] 26)) 251 #[.int .i64 0, .slice none 0 0]; rwa [World.size_alloc] at this
 have HG4 : Hid (Calls Tryz.prog 247 #[.int .i64 ((k : Int) + 4), .pointer (some ⟨w.heap.size, 0, none⟩)] W2 fun e w' => e = .returned (.int .u32 (s : Nat)) ∧ W2 = w') := HG.out _ HB2.out HBL.out
 have HF4 := Lib.hid (HF.out _ HB2.out HBL.out)
 have HCK := Lib.hid (fun A c (h1 : n = 0 ∨ A = some (⟨b, off + (k + 8), none⟩ : Addr)) h2 h3 => crcCheck_any _ _ s W2 ((HSUB.out A c h1 h2 h3).below HB2.out) (hF0.below HB2.out))
 rw [hd] at HCK
 have HCL := Lib.hid (fun W3 (hW3 : Below W2.heap.size W2 W3) A c (h1 : n = 0 ∨ A = some (⟨b, off + (k + 8), none⟩ : Addr)) h2 h3 => sclone_any _ _ W3 (((HSUB.out A c h1 h2 h3).below HB2.out).below hW3) (show cs.length ≤ 100000000 by omega))
 rw [hcl] at HCL
 have HW2 := Lib.hid hW2
 have q0 := HBL.out.cell (i := 0) rfl
 clear HF HG HSUB hW2
 clear hc hcells hs hs2 hn hcl hd
 go_enter Tryz.func234, Tryz.ntmps234
 go_wp2_with fail
 rw [HW2.out]
 go_wp2_with (first
  | (go_at_call 247; refine HF4.out.mono ?_; clear HF4; rintro e w2 ⟨rfl, rfl⟩)
  | (go_at_call 247; refine HG4.out.mono ?_; clear HG4; rintro e w2 ⟨rfl, rfl⟩)
  | (go_at_call 248; refine (HCK.out _ _ (by first | exact Or.inr rfl | (left; omega)) (by omega) (by omega)).mono ?_; rintro e w3 ⟨rfl, b3⟩; have HB3 := Lib.hid b3; clear b3)
  | (go_at_call 96; refine (HCL.out _ HB3.out _ _ (by first | exact Or.inr rfl | (left; omega)) (by omega) (by omega)).mono ?_; rintro e w4 ⟨vo, rfl, ho, b4⟩; obtain ⟨a9, n9, c9, rfl⟩ : ∃ a n c, vo = Value.slice a n c := row_shape ho; have b5 := HB3.out.trans (b4.mono HB3.out.size); have hr3 := HBR.out.of_block (b5.block _ HBR.out.lt); have r0 := hr3.cell (i := 0) (v := .int .i64 0) rfl; have r1 := hr3.cell (i := 1) (v := .slice none 0 0) rfl; have r2 := hr3.frozen 0; have r3 := hr3.frozen 1; have HB5 := Lib.hid b5; have HR3 := Lib.hid hr3; have HO := Lib.hid ho; clear b4 b5 hr3 ho))
 all_goals
  have HZ := HSZ.out
  have HZ3 := HB3.out.size
  have B4 := HB2.out.trans (HB5.out.mono HB2.out.size)
  clear HB2 HB3 HB5 HBL HSZ HCK HCL
  refine bodyPost_ret (v := .tuple #[frV k (.slice a9 n9 c9), .int .i64 ((k : Int) + 8 + n), .int .i64 0]) (by simp [results, Tryz.results234, go_sem, r0, r1, r2, r3]; try rfl) rfl ?_
  refine ⟨_, by push_cast; rfl, ?_, ?_⟩
  ·have HLT : w.heap.size + 1 < w3.heap.size := by omega
   exact World.ownsRow.mono (ownsRow_setCell_below (ownsRow_setCell_below HO.out (by exact HLT) _) (by exact HLT) _) (by omega)
  ·repeat (refine Below.setCell ?_ (by simp) _)
   exact B4
theorem next_none (v : Value) (bs : List UInt8) (k : Nat) (w : World) (hv : BsIn w v bs) (hF0 : FoursAt w) (hl : bs.length ≤ 100000000) (hk : k ≤ bs.length) (h : nextF (bs.drop k) = none) :
  Calls Tryz.prog 234 #[v, .int .i64 (k : Int)] w fun e w' => ∃ c, e = .returned (.tuple #[frV 0 (.slice none 0 0), .int .i64 0, .int .i64 c]) ∧ c ≠ 0 ∧ Below w.heap.size w w' := by
 unfold nextF at h
 split at h
 ·rename_i h8
  exact next_short v bs k w hv hl hk (by simpa using h8)
 ·rename_i h8
  have h8 : 8 ≤ bs.length - k := by simpa using h8
  split at h
  ·rename_i hb
   exact next_big v bs k w hv hl (by omega) (by rcases hb with hb | hb; exact .inl hb; right; simp at hb; omega)
  ·rename_i hb
   split at h
   ·cases h
   ·rename_i hc
    have hb2 : beNat ((bs.drop k).take 4) ≤ bs.length - k - 8 := by
     by_cases hq : bs.length - k - 8 < beNat ((bs.drop k).take 4)
     ·exact absurd (Or.inr (by simpa using hq)) hb
     ·omega
    rw [List.drop_drop, List.drop_drop] at hc
    exact next_bad v bs k _ _ w hv hF0 hl (by omega) rfl (by omega) rfl hc
theorem next_some (v : Value) (bs : List UInt8) (k : Nat) (cs r' : List UInt8) (w : World) (hv : BsIn w v bs) (hF0 : FoursAt w) (hl : bs.length ≤ 100000000) (hk : k ≤ bs.length) (h : nextF (bs.drop k) = some (cs, r')) :
  Calls Tryz.prog 234 #[v, .int .i64 (k : Int)] w fun e w' => ∃ vo, e = .returned (.tuple #[frV k vo, .int .i64 ((k + 8 + cs.length : Nat) : Int), .int .i64 0]) ∧
   w'.ownsRow w.heap.size 5 1 vo cs.length (cs.map u8V) ∧ Below w.heap.size w w' := by
 obtain ⟨h1, h2, h3, h4, h5, h6⟩ := nextF_some h
 have h1 : 8 ≤ bs.length - k := by simpa using h1
 have h4 : 8 + cs.length ≤ bs.length - k := by simpa using h4
 have hs : crcSum ((bs.drop (k + 8)).take cs.length) = beNat ((bs.drop (k + 4)).take 4) := by
  unfold nextF at h
  split at h
  ·cases h
  ·split at h
   ·cases h
   ·split at h
    ·rename_i hc
     rw [List.drop_drop, List.drop_drop, ← h2] at hc
     exact hc
    ·cases h
 rw [List.drop_drop] at h6
 have := next_yes v bs k cs.length w hv hF0 hl (by omega) h2.symm h3 hs
 rw [← h6] at this
 exact this
end Go.Proofs.YtlfikhblmbidmaaGreatDoor
namespace Go.Proofs.YtlfikhblmbidmaaGreatDoor
open Go.RowKit Go.Maps
section
variable (w : World)
theorem run_append_bs (base : Nat) (ty : TypeId) (i : TypeInfo) (hi : Tryz.prog.info? 5 = some i) (hz : i.zero = some (.int .u8 0)) (hsize : i.size = 1) (hby : i.bytes = 1)
  (v : Value) (n : Nat) (xs : List Value) (hown : w.ownsRow base 5 1 v n xs) (u : Value) (bs : List UInt8) (hr : BsIn w u bs) (h63 : n + bs.length ≤ 1000000000) (hbase : base ≤ w.heap.size) :
  ∃ v' w', (Builtin.append_ #[26, 26] ty #[v, u]).run Tryz.prog w = .ok v' w' ∧ w'.ownsRow base 5 1 v' (n + bs.length) (xs ++ bs.map u8V) ∧ w.grownBy w' v.ownBlock ∧
   (v'.ownBlock = v.ownBlock ∨ v'.ownBlock = some w.heap.size) := by
 obtain ⟨A, c, rfl, hle, hmax, hcells⟩ := hr
 have ht := Tryz.underlying26
 rcases A with _ | ad
 ·have hm : bs = [] := by
   cases bs with
   | nil => rfl
   | cons x r =>
    obtain ⟨b, off, e, _⟩ := hcells (by simp)
    cases e
  subst hm
  refine ⟨v, w, ?_, by simpa using hown, World.grownBy.refl w _, .inl rfl⟩
  rcases hown.2 with ⟨rfl, rfl⟩ | ⟨g, cap, cur, rfl, _, _, hnc, _⟩
  ·simp [Builtin.append_, run_underlying ht, sizeOf, typeInfo, hi, Builtin.lenOf, Builtin.firstCells]
  ·simp [Builtin.append_, run_underlying ht, sizeOf, typeInfo, hi, Builtin.lenOf, Builtin.firstCells, hnc, storeCells]
 ·have hc : ∀ j z, (bs.map u8V)[j]? = some z → w.cell? (ad.add j) = some z := fun j z hz => by
   rw [List.getElem?_map] at hz
   cases hy : bs[j]? with
   | none => rw [hy] at hz; cases hz
   | some y =>
    rw [hy] at hz
    cases hz
    obtain ⟨b, off, e, _, hc⟩ := hcells (by have := (List.getElem?_eq_some_iff.1 hy).1; omega)
    cases e
    rw [Addr.add_lit]
    exact hc j y hy
  obtain ⟨v', w', hrun, h2, h3, _, h5⟩ := run_append_own_at (P := Tryz.prog) w base 26 ty 5 i (.int .u8 0) 1 1 ht hi hz hsize hby rfl (by decide) v n xs hown ad bs.length c (bs.map u8V) (by simp) hc (u8_one bs) (by unfold maxLen; omega) (by omega) hbase
  exact ⟨v', w', hrun, h2, h3, h5⟩
theorem wpList_append_bs {ops : Array Oper} {rest : List Oper} {o : Oper} {a : Act} {Q : Exit → Act → World → Prop} (hgd : o.guard = none) (s x : Operand)
  (ho : o.op = .call { callee := .builtin .append, args := #[s, x], argTypes := #[26, 26] })
  (base : Nat) (v : Value) (n : Nat) (xs : List Value) (hs : a.eval s = v) (hown : w.ownsRow base 5 1 v n xs) (u : Value) (bs : List UInt8) (hx : a.eval x = u) (hr : BsIn w u bs) (h63 : n + bs.length ≤ 1000000000) (hbase : base ≤ w.heap.size)
  (h : ∀ v' w', w'.ownsRow base 5 1 v' (n + bs.length) (xs ++ bs.map u8V) → w.grownBy w' v.ownBlock → (v'.ownBlock = v.ownBlock ∨ v'.ownBlock = some w.heap.size) → wpList Tryz.prog ops Q rest (a.put o.dst v') w') : wpList Tryz.prog ops Q (o :: rest) a w := by
 refine wpList_plain hgd fun K hK => ?_
 obtain ⟨i0, hi, hz0, hz1, hz2⟩ := info_parts info_u8
 obtain ⟨v', w', hrun, h2, h3, h4⟩ := run_append_bs w base o.type i0 hi hz0 hz1 hz2 v n xs hown u bs hr h63 hbase
 unfold Oper.wp execOp
 simp only [ho, resolve, invoke, builtin, Sem.run_bind, Sem.run_pure, Result.andThen_ok, List.map_toArray, List.map_cons, List.map_nil, hs, hx, hrun]
 exact hK _ _ (h v' w' h2 h3 h4)
end
set_option maxRecDepth 100000 in
set_option maxHeartbeats 2000000 in
theorem grow_nil (n : Nat) (w : World) (hn : 0 < n) (hm : n ≤ 1000000000) :
  Calls Tryz.prog 217 #[.slice none 0 0, .int .i64 (n : Int)] w fun e w' => ∃ v, e = .returned v ∧ w'.ownsRow w.heap.size 5 1 v 0 [] ∧ Below w.heap.size w w' := by
 obtain ⟨i0, hi, hz0, hz1, hz2⟩ := info_parts info_u8
 have hold : (Builtin.firstCells i0.size 0 (.slice none 0 0)).run Tryz.prog w.drew = .ok (#[] : Array Value) w.drew := run_firstCells_none w.drew i0.size 0 0 0
 have hr := Lib.run_append_grow_zeros (P := Tryz.prog) w 26 3 26 5 i0 (.int .u8 0) .i64 .i64 Tryz.underlying26 Tryz.underlying3 hi hz0 none 0 0 [] hold n hn (by omega) (by omega) (by omega) (by rw [hz2]; omega)
  (by rw [hz2]; exact growslice_fits (by omega) (by omega))
 rw [Nat.zero_add] at hr
 have hge := grownCap_ge w n 0 5
 have hmx := grownCap_le_maxLen w n 0 5 (by unfold maxLen; omega)
 generalize grownCap w n 0 5 = G at *
 have hsz : ((#[] : Array Value) ++ Builtin.zeroCells (Value.int .u8 0).cells n ++ Builtin.zeroCells (Value.int .u8 0).cells (G - n)).size = G := by
  simp [size_zeroCells, Value.cells]; omega
 generalize ((#[] : Array Value) ++ Builtin.zeroCells (Value.int .u8 0).cells n ++ Builtin.zeroCells (Value.int .u8 0).cells (G - n)) = cs at *
 have HR := Lib.hid hr
 have HMX := Lib.hid hmx
 have HSZ := Lib.hid hsz
 have hG : G ≤ 9223372036854775807 := by unfold maxLen at hmx; omega
 clear hr hold hi hz0 hz1 hz2 hsz hmx
 go_enter Tryz.func217, Tryz.ntmps217
 go_wp2_with (at_builtin; refine Lib.wpList_append_run _ rfl _ _ _ _ rfl _ _ rfl rfl _ _ HR.out ?_)
 go_returns
 refine ⟨_, rfl, ⟨by simp, .inr ⟨_, _, cs, rfl, Nat.le_refl _, ?_, Nat.zero_le _, HMX.out, by rw [HSZ.out]; omega, by simp⟩⟩, ((Below.refl _ w).drew).alloc (Nat.le_refl _) _⟩
 have := World.alloc_heap_new w.drew (.cells cs 5)
 exact this
end Go.Proofs.YtlfikhblmbidmaaGreatDoor
namespace Go.Proofs.YtlfikhblmbidmaaGreatDoor
open Go.RowKit Go.Maps
abbrev Parts := List (Value × List UInt8)
def catB (ps : Parts) : List UInt8 := ps.flatMap (·.2)
theorem catB_take {ps : Parts} {i : Nat} {p : Value × List UInt8} (h : ps[i]? = some p) : catB (ps.take (i + 1)) = catB (ps.take i) ++ p.2 := by
 rw [take_snoc h]; simp [catB]
theorem catB_take_le (ps : Parts) (i : Nat) : (catB (ps.take i)).length ≤ (catB ps).length := by
 have : catB ps = catB (ps.take i) ++ catB (ps.drop i) := by simp [catB, ← List.flatMap_append, List.take_append_drop]
 rw [this, List.length_append]; omega
theorem BsIn.shape {w : World} {v : Value} {bs : List UInt8} (h : BsIn w v bs) : ∃ A c, v = .slice A bs.length c ∧ bs.length ≤ c ∧ c ≤ maxLen := by
 obtain ⟨A, c, rfl, h1, h2, _⟩ := h
 exact ⟨A, c, rfl, h1, h2⟩
theorem BsIn.fr {S : Nat → Prop} {w w' : World} {v : Value} {bs : List UInt8} (h : BsIn w v bs) (k : Fr S w w') (hS : ∀ i, S i → i < w.heap.size → ∀ A n c, v = .slice (some A) n c → A.block ≠ i) : BsIn w' v bs := by
 obtain ⟨A, cap, rfl, h2, h3, h5⟩ := h
 refine ⟨A, cap, rfl, h2, h3, fun h0 => ?_⟩
 obtain ⟨b, off, rfl, k2, k3⟩ := h5 h0
 refine ⟨b, off, rfl, Nat.lt_of_lt_of_le k2 k.size, fun i z hx => k.cell (p := ⟨b, off + i, none⟩) (fun hs => hS b hs k2 _ _ _ rfl rfl) (k3 i z hx)⟩
theorem BsIn.up {lo : Nat} {w w' : World} {v : Value} {bs : List UInt8} (h : BsIn w v bs) (hl : w.heap.size ≤ lo) (hb : Below lo w w') : BsIn w' v bs := h.below (hb.mono hl)
set_option maxRecDepth 100000 in
set_option maxHeartbeats 2000000 in
theorem concat_any (b cap : Nat) (ps : Parts) (w : World) (hn : ps.length ≤ 100000) (hl : (catB ps).length ≤ 100000000) (h0 : 0 < (catB ps).length) (hb : b < w.heap.size)
  (hc : ∀ (j : Nat) (p : Value × List UInt8), ps[j]? = some p → w.cell? ⟨b, j, none⟩ = some p.1 ∧ BsIn w p.1 p.2) :
  Calls Tryz.prog 189 #[.slice (some ⟨b, 0, none⟩) ps.length cap] w fun e w' => ∃ v, e = .returned v ∧ w'.ownsRow w.heap.size 5 1 v (catB ps).length ((catB ps).map u8V) ∧ Below w.heap.size w w' := by
 have HC := Lib.hid hc
 have HL := Lib.hid hl
 have HN := Lib.hid hn
 clear hc
 go_enter Tryz.func189, Tryz.ntmps189
 go_wp2_with fail
 go_loop [3, 11] (fun s c => ∃ i : Nat, i ≤ ps.length ∧ c = .int .i64 i ∧ s = .int .i64 ((catB (ps.take i)).length : Nat)) (fun _ c => ps.length - (intOf c).toNat)
 case atStart => exact ⟨0, Nat.zero_le _, rfl, by simp [catB]⟩
 case round =>
  obtain ⟨i, hi, rfl, rfl⟩ := hrel
  by_cases hlt : i < ps.length
  ·obtain ⟨p, hp⟩ : ∃ p, ps[i]? = some p := ⟨_, List.getElem?_eq_getElem hlt⟩
   obtain ⟨pv, pb⟩ := p
   obtain ⟨hcz, hB⟩ := HC.out i _ hp
   simp only at hcz hB
   obtain ⟨A, c, rfl, hle, hcm⟩ := hB.shape
   have hs1 := catB_take hp
   have hle1 := catB_take_le ps (i + 1)
   rw [hs1, List.length_append] at hle1
   have hle2 := catB_take_le ps i
   have HE := Lib.hid (show ((catB (ps.take i)).length : Int) + (pb.length : Int) = ((catB (ps.take (i + 1))).length : Nat) by rw [hs1, List.length_append]; push_cast; rfl)
   clear hs1
   generalize (catB (ps.take i)).length = q at *
   simp only at hle1
   generalize pb.length = m at *
   clear hB hp
   go_wp2_with fail
   rw [HE.out]
   go_round
   case rel => exact ⟨i + 1, by omega, by go_num, rfl⟩
   case measure => simp [intOf]; omega
  ·obtain rfl : i = ps.length := by omega
   rw [List.take_length]
   go_wp2_with (go_at_call 217; refine (grow_nil (catB ps).length w h0 (by omega)).mono ?_; rintro e w2 ⟨v2, rfl, ho, b2⟩; have HO := Lib.hid ho; have HB2 := Lib.hid b2; clear ho b2)
   clear hi
   go_loopw [6, 27] (fun v c wr => ∃ i : Nat, i ≤ ps.length ∧ c = .int .i64 i ∧ wr.ownsRow w.heap.size 5 1 v (catB (ps.take i)).length ((catB (ps.take i)).map u8V) ∧ Below w.heap.size w wr) (fun _ c _ => ps.length - (intOf c).toNat)
   case atStart => exact ⟨0, Nat.zero_le _, rfl, by simpa [catB] using HO.out, HB2.out⟩
   case round =>
    obtain ⟨i, hi, rfl, hown, hbel⟩ := hrel
    by_cases hlt : i < ps.length
    ·obtain ⟨p, hp⟩ : ∃ p, ps[i]? = some p := ⟨_, List.getElem?_eq_getElem hlt⟩
     obtain ⟨pv, pb⟩ := p
     obtain ⟨hcz, hB⟩ := HC.out i _ hp
     simp only at hcz hB
     have hcz2 := hbel.cell (p := ⟨b, i, none⟩) hb
     rw [hcz] at hcz2
     have HBW := Lib.hid (hB.up (Nat.le_refl _) hbel)
     obtain ⟨A, c, rfl, hle, hcm⟩ := hB.shape
     have hle1 := catB_take_le ps (i + 1)
     have HS1 := Lib.hid (catB_take hp)
     simp only at HS1
     rw [HS1.out, List.length_append] at hle1
     obtain ⟨a1, n1, c1, rfl⟩ := row_shape hown
     have HW := Lib.hid hown
     have HBE := Lib.hid hbel
     have hbz := hbel.size
     clear hown hbel hcz hB hp
     have HI1 := Lib.hid (show i + 1 ≤ ps.length by omega)
     have HMS := Lib.hid (show ps.length - (intOf (Value.int .i64 ((i + 1 : Nat) : Int))).toNat < ps.length - (intOf (Value.int .i64 (i : Int))).toNat by simp [intOf]; omega)
     go_wp2_with (at_builtin; refine wpList_append_bs _ rfl _ _ rfl w.heap.size _ _ _ rfl HW.out _ _ rfl HBW.out (by have := HL.out; omega) hbz ?_; intro v3 w3 ho3 hg3 _; have HO3 := Lib.hid ho3; have HG3 := Lib.hid hg3; clear ho3 hg3)
     have hg := HBE.out.grown HG3.out hbz (fun k e => (HW.out.lt k e).1)
     exact ⟨⟨i + 1, HI1.out, by go_num, by rw [HS1.out, List.length_append, List.map_append]; exact HO3.out, hg⟩, HMS.out⟩
    ·obtain rfl : i = ps.length := by omega
     rw [List.take_length] at hown
     go_wp2_with fail
     go_returns
     exact ⟨_, rfl, hown, hbel⟩
end Go.Proofs.YtlfikhblmbidmaaGreatDoor
namespace Go.Proofs.YtlfikhblmbidmaaGreatDoor
open Go.RowKit Go.Maps
def hdV (n s : Int) (k : Nat) : Array Value := #[if 0 < k then .int .u8 (n / 16777216) else .int .u8 0, if 1 < k then .int .u8 (n / 65536) else .int .u8 0, if 2 < k then .int .u8 (n / 256 % 256) else .int .u8 0, if 3 < k then .int .u8 (n % 256) else .int .u8 0,
 if 0 < k then .int .u8 (s / 16777216) else .int .u8 0, if 1 < k then .int .u8 (s / 65536 % 256) else .int .u8 0, if 2 < k then .int .u8 (s / 256 % 256) else .int .u8 0, if 3 < k then .int .u8 (s % 256) else .int .u8 0]
theorem hd_bytes (n s : Nat) (hn : n ≤ 65536) (hs : s < 4294967296) (i : Nat) (z : UInt8) (h : (be32 n ++ be32 s)[i]? = some z) : (hdV n s 4)[i]? = some (u8V z) := by
 have hi : i < 8 := (List.getElem?_eq_some_iff.1 h).1
 have e1 : (UInt8.ofNat (n / 16777216)).toNat = n / 16777216 := ofNat_toNat8 (by omega)
 have e2 : (UInt8.ofNat (n / 65536 % 256)).toNat = n / 65536 % 256 := ofNat_toNat8 (by omega)
 have e3 : (UInt8.ofNat (n / 256 % 256)).toNat = n / 256 % 256 := ofNat_toNat8 (by omega)
 have e4 : (UInt8.ofNat (n % 256)).toNat = n % 256 := ofNat_toNat8 (by omega)
 have e5 : (UInt8.ofNat (s / 16777216)).toNat = s / 16777216 := ofNat_toNat8 (by omega)
 have e6 : (UInt8.ofNat (s / 65536 % 256)).toNat = s / 65536 % 256 := ofNat_toNat8 (by omega)
 have e7 : (UInt8.ofNat (s / 256 % 256)).toNat = s / 256 % 256 := ofNat_toNat8 (by omega)
 have e8 : (UInt8.ofNat (s % 256)).toNat = s % 256 := ofNat_toNat8 (by omega)
 have e9 : n / 65536 % 256 = n / 65536 := by omega
 match i, hi, h with
 | 0, _, h => cases h; show some _ = some _; rw [u8V, e1]; rfl
 | 1, _, h => cases h; show some _ = some _; rw [u8V, e2, e9]; rfl
 | 2, _, h => cases h; show some _ = some _; rw [u8V, e3]; rfl
 | 3, _, h => cases h; show some _ = some _; rw [u8V, e4]; rfl
 | 4, _, h => cases h; show some _ = some _; rw [u8V, e5]; rfl
 | 5, _, h => cases h; show some _ = some _; rw [u8V, e6]; rfl
 | 6, _, h => cases h; show some _ = some _; rw [u8V, e7]; rfl
 | 7, _, h => cases h; show some _ = some _; rw [u8V, e8]; rfl
theorem two_parts (w : World) (p q : Value × List UInt8) (hp : BsIn w p.1 p.2) (hq : BsIn w q.1 q.2) : ∀ (j : Nat) (x : Value × List UInt8), [p, q][j]? = some x →
  (w.alloc (.cells #[p.1, q.1] 26)).cell? ⟨w.heap.size, j, none⟩ = some x.1 ∧ BsIn (w.alloc (.cells #[p.1, q.1] 26)) x.1 x.2 := fun j x hx => by
 have hB := Blk.new w 26 #[p.1, q.1]
 have hb : Below w.heap.size w (w.alloc (.cells #[p.1, q.1] 26)) := (Below.refl _ w).alloc (Nat.le_refl _) _
 match j, hx with
 | 0, hx => cases hx; exact ⟨hB.cell rfl, hp.below hb⟩
 | 1, hx => cases hx; exact ⟨hB.cell rfl, hq.below hb⟩
 | _ + 2, hx => simp at hx
set_option maxRecDepth 100000 in
set_option maxHeartbeats 2000000 in
theorem make_yes (v : Value) (bs : List UInt8) (w : World) (hv : BsIn w v bs) (hF0 : FoursAt w) (hl : bs.length ≤ 65536) :
  Calls Tryz.prog 135 #[v] w fun e w' => ∃ vo, e = .returned (.tuple #[vo, .int .i64 0]) ∧ w'.ownsRow w.heap.size 5 1 vo (frameB bs).length ((frameB bs).map u8V) ∧ Below w.heap.size w w' := by
 have HV := Lib.hid hv
 obtain ⟨A, c, rfl, hle, hcm⟩ := hv.shape
 have hs := crcSum_lt bs
 have HS := Lib.hid (fun w1 (h : Below w.heap.size w w1) => sum_any _ bs w1 (HV.out.below h) (hF0.below h))
 have hn : bs.length < 4294967296 := by omega
 have HFB := Lib.hid (show frameB bs = be32 bs.length ++ (be32 (crcSum bs) ++ bs) from rfl)
 generalize frameB bs = fb at *
 generalize crcSum bs = s at *
 clear hv
 go_enter Tryz.func135, Tryz.ntmps135
 go_wp2_with (go_at_call 188; refine (HS.out _ ((Below.refl _ w).alloc (Nat.le_refl _) _)).mono ?_; rintro e w2 ⟨rfl, b2⟩; have HB2 := Lib.hid b2; clear b2)
 obtain ⟨B, hB⟩ : ∃ B, w.heap.size = B := ⟨_, rfl⟩
 have hblk0 := (Blk.new w 235 (hdV bs.length s 0)).of_block (HB2.out.block _ (by simp))
 rw [hB] at hblk0
 have hbel0 : Below B w w2 := by rw [← hB]; exact ((Below.refl _ w).alloc (Nat.le_refl _) _).trans (HB2.out.mono (by simp))
 rw [hB]
 generalize hnl : bs.length = n at *
 have HNL := Lib.hid hnl
 clear hnl
 go_loopw [16] (fun c wr => ∃ k : Nat, k ≤ 4 ∧ c = .int .i64 k ∧ Blk wr B 235 (hdV n s k) ∧ Below B w2 wr) (fun c _ => 4 - (intOf c).toNat)
 case atStart => exact ⟨0, by omega, rfl, hblk0, Below.refl _ _⟩
 case round =>
  obtain ⟨k, hk, rfl, hblk, hbel⟩ := hrel
  by_cases hlt : k < 4
  ·rcases (show k = 0 ∨ k = 1 ∨ k = 2 ∨ k = 3 by omega) with rfl | rfl | rfl | rfl
   ·have c1 : wr.cell? ⟨B, 0, none⟩ = some (.int .u8 0) := hblk.cell rfl
    have c2 : wr.cell? ⟨B, 4, none⟩ = some (.int .u8 0) := hblk.cell rfl
    have f1 := hblk.frozen 0
    have f2 := hblk.frozen 4
    have HBK := Lib.hid hblk
    clear hblk
    go_wp2_with fail
    go_region
    all_goals go_wp2_with fail
    all_goals
     go_roundw
     case rel => exact ⟨1, by omega, by go_num, (HBK.out.set _ _).set _ _, Below.setCell (Below.setCell hbel.drew (by simp) _) (by simp) _⟩
     case measure => simp [intOf]
   ·have c1 : wr.cell? ⟨B, 1, none⟩ = some (.int .u8 0) := hblk.cell rfl
    have c2 : wr.cell? ⟨B, 5, none⟩ = some (.int .u8 0) := hblk.cell rfl
    have f1 := hblk.frozen 1
    have f2 := hblk.frozen 5
    have HBK := Lib.hid hblk
    clear hblk
    go_wp2_with fail
    go_region
    all_goals go_wp2_with fail
    all_goals
     go_roundw
     case rel => exact ⟨2, by omega, by go_num, (HBK.out.set _ _).set _ _, Below.setCell (Below.setCell hbel.drew (by simp) _) (by simp) _⟩
     case measure => simp [intOf]
   ·have c1 : wr.cell? ⟨B, 2, none⟩ = some (.int .u8 0) := hblk.cell rfl
    have c2 : wr.cell? ⟨B, 6, none⟩ = some (.int .u8 0) := hblk.cell rfl
    have f1 := hblk.frozen 2
    have f2 := hblk.frozen 6
    have HBK := Lib.hid hblk
    clear hblk
    go_wp2_with fail
    go_region
    all_goals go_wp2_with fail
    all_goals
     go_roundw
     case rel => exact ⟨3, by omega, by go_num, (HBK.out.set _ _).set _ _, Below.setCell (Below.setCell hbel.drew (by simp) _) (by simp) _⟩
     case measure => simp [intOf]
   ·have c1 : wr.cell? ⟨B, 3, none⟩ = some (.int .u8 0) := hblk.cell rfl
    have c2 : wr.cell? ⟨B, 7, none⟩ = some (.int .u8 0) := hblk.cell rfl
    have f1 := hblk.frozen 3
    have f2 := hblk.frozen 7
    have HBK := Lib.hid hblk
    clear hblk
    go_wp2_with fail
    go_region
    all_goals go_wp2_with fail
    all_goals
     go_roundw
     case rel => exact ⟨4, by omega, by go_num, (HBK.out.set _ _).set _ _, Below.setCell (Below.setCell hbel.drew (by simp) _) (by simp) _⟩
     case measure => simp [intOf]
  ·obtain rfl : k = 4 := by omega
   have hH : BsIn wr (.slice (some ⟨B, 0, none⟩) 8 8) (be32 n ++ be32 s) := ⟨some ⟨B, 0, none⟩, 8, rfl, Nat.le_refl _, by unfold maxLen; omega, fun _ => ⟨B, 0, rfl, hblk.lt, fun i z hz => by
    rw [Nat.zero_add]
    exact hblk.cell (hd_bytes n s hl hs i z hz)⟩⟩
   have HH := Lib.hid hH
   have HBW := Lib.hid (HV.out.below ((hbel0.trans hbel).mono (by omega)))
   clear hblk hH
   have HW := Lib.hid (hbel0.trans hbel)
   have hwz := (hbel0.trans hbel).size
   have h0 : 8 + n = (catB [(.slice (some ⟨B, 0, none⟩) 8 8, be32 n ++ be32 s), (.slice A n c, bs)]).length := by simp [catB, be32_length, HNL.out]; omega
   have H0 := Lib.hid h0
   clear hbel h0
   go_wp2_with (go_at_call 189; refine (concat_any wr.heap.size 2 [(.slice (some ⟨B, 0, none⟩) 8 8, be32 n ++ be32 s), (.slice A n c, bs)] _ (by simp) (by rw [← H0.out]; omega) (by rw [← H0.out]; omega) (by simp) (two_parts wr _ _ HH.out HBW.out)).mono ?_; rintro e w4 ⟨vo, rfl, ho, b4⟩; have HO := Lib.hid ho; have HB4 := Lib.hid b4; clear ho b4)
   go_returns
   have hz4 : B ≤ (wr.alloc (.cells #[.slice (some ⟨B, 0, none⟩) 8 8, .slice A n c] 26)).heap.size := by simp; omega
   refine ⟨_, rfl, ?_, ?_⟩
   ·have h1 := World.ownsRow.mono HO.out (show w.heap.size ≤ _ by rw [hB]; exact hz4)
    have h2 : catB [(.slice (some ⟨B, 0, none⟩) 8 8, be32 n ++ be32 s), (.slice A n c, bs)] = fb := by rw [HFB.out]; simp [catB]
    rw [h2] at h1
    exact h1
   ·rw [hB]
    exact (HW.out.alloc (by omega) _).trans (HB4.out.mono hz4)
end Go.Proofs.YtlfikhblmbidmaaGreatDoor
namespace Go.Proofs.YtlfikhblmbidmaaGreatDoor
open Go.RowKit Go.Maps
attribute [local go_sem] Oper.semAt_some
structure FrmX where
 nx : Nat
 at_ : Nat
 v : Value
 c : List UInt8
def lastN (l : List FrmX) : Nat := (l.getLast?.map (·.nx)).getD 0
theorem lastN_snoc (l : List FrmX) (x : FrmX) : lastN (l ++ [x]) = x.nx := by simp [lastN]
def RowB (lo : Nat) (W : World) (v : Value) (c : List UInt8) : Prop := W.ownsRow lo 5 1 v c.length (c.map u8V)
theorem RowB.keep {lo : Nat} {A B : World} {v : Value} {c : List UInt8} (h : RowB lo A v c) (k : KeepT 5 A B) : RowB lo B v c := KeepT.row k h
theorem RowB.lower {lo lo' : Nat} {A : World} {v : Value} {c : List UInt8} (h : RowB lo A v c) (k : lo' ≤ lo) : RowB lo' A v c := World.ownsRow.mono h k
theorem RowB.bsIn {lo : Nat} {A : World} {v : Value} {c : List UInt8} (h : RowB lo A v c) : BsIn A v c := bsIn_row h
def FrmG (lo : Nat) (pre : List FrmX) (x : FrmX) (W : World) : Prop := RowB lo W x.v x.c
def KpA (n₀ : Nat) (A B : World) : Prop := KeepT 5 A B ∧ KeepT 26 A B ∧ Below n₀ A B
theorem KpA.trans {n₀ : Nat} {A B C : World} (h : KpA n₀ A B) (k : KpA n₀ B C) : KpA n₀ A C := ⟨h.1.trans k.1, h.2.1.trans k.2.1, h.2.2.trans k.2.2⟩
abbrev frX (x : FrmX) : Array Value := #[.int .i64 ((x.nx : Nat) : Int), frV x.at_ x.v]
set_option maxRecDepth 100000 in
set_option maxHeartbeats 2000000 in
theorem whole_seq (n : Nat) (hn : 1 ≤ n) (B : Nat) (v : Value) (bs : List UInt8) (w0 w : World) (hF0 : FoursAt w0) (hv : BsIn w0 v bs) (hl : bs.length ≤ 100000000) (hb0 : Below w0.heap.size w0 w) (hB : Boxed w B 26 v) (hBn : w0.heap.size ≤ B) :
  SeqG Fence.wide n Tryz.prog 233 #[.pointer (some ⟨B, 0, none⟩)] frX (KpA w0.heap.size) (FrmG w0.heap.size) (fun xs => xs.map (·.c) = (allF bs).1 ∧ lastN xs = (allF bs).2) (bs.length + 1) w := by
 intro l J W hW hJ hY h0
 have hro : Fence.wide.round = none := rfl
 have hBW : Boxed W B 26 v := (hW.block B hB.lt).trans hB
 have hb0W : Below w0.heap.size w0 W := hb0.trans (hW.mono hb0.size)
 refine callsIn_of_wp Tryz.func233 rfl trivial ?_ hro
 simp only [Tryz.ntmps233, List.size_toArray, List.length_cons, List.length_nil, Nat.reduceAdd, Nat.reduceSub, Array.replicate_succ, Array.replicate_zero, List.push_toArray, List.append_toArray, List.nil_append, List.cons_append]
 gi_wp2
 gi_loopw [3] (fun a wr => ∃ (pre : List FrmX) (k : Nat), a = .int .i64 k ∧ k ≤ bs.length ∧ 8 * pre.length ≤ k ∧ pre.map (·.c) ++ (allF (bs.drop k)).1 = (allF bs).1 ∧ lastN pre = k ∧ k + (allF (bs.drop k)).2 = (allF bs).2 ∧ J pre wr ∧ Below w0.heap.size w0 wr ∧ Boxed wr B 26 v ∧ W.heap.size ≤ wr.heap.size) (fun a _ => bs.length - (intOf a).toNat)
 case atStart => exact ⟨[], 0, rfl, Nat.zero_le _, Nat.zero_le _, by simp, rfl, by simp, h0, hb0W, hBW, Nat.le_refl _⟩
 case round =>
  obtain ⟨pre, k, rfl, hk, hpl, hc, hla, hen, hj, hbw, hbx, hsz⟩ := hrel
  have hcb := hbx.cell
  have HVW := Lib.hid (hv.below hbw)
  have HFW := Lib.hid (hF0.below hbw)
  have HBX := Lib.hid hbx
  have HC := Lib.hid hc
  have HLA := Lib.hid hla
  have HEN := Lib.hid hen
  clear hbx hc hla hen
  cases hq : nextF (bs.drop k) with
  | none =>
   have HNX := Lib.hid (next_none v bs k wr HVW.out HFW.out hl hk hq)
   rw [allF_none hq] at HC HEN
   clear hq
   gi_wp2_with (refine ⟨trivial, ?_⟩; gi_at_call 234; refine (callsIn_wide.2 HNX.out).mono ?_; rintro e w2 ⟨c, rfl, hc, b2⟩; have hc2 : (c != 0) = true := (by simpa using hc); have HB2 := Lib.hid b2; clear b2 hc)
   refine ⟨by simp, ?_⟩
   gi_wp2
   refine bodyPost_ret (results_none rfl _ _ _) rfl ?_
   exact ⟨⟨_, rfl⟩, pre, ⟨by simpa using HC.out, HLA.out.trans (by simpa using HEN.out)⟩, hJ _ _ _ none hj (below_grown (HB2.out.alloc HB2.out.size _)) (fun r e => by cases e)⟩
  | some p =>
   obtain ⟨cs, r'⟩ := p
   have HNX := Lib.hid (next_some v bs k cs r' wr HVW.out HFW.out hl hk hq)
   obtain ⟨q1, q2, q3, q4, q5, q6⟩ := nextF_some hq
   rw [allF_some hq] at HC HEN
   rw [List.length_drop] at q4
   have HQ5 := Lib.hid q5
   obtain ⟨nx, hnx⟩ : ∃ nx, k + 8 + cs.length = nx := ⟨_, rfl⟩
   rw [hnx] at HNX
   have hnl : nx ≤ bs.length := by omega
   have hnk : k < nx := by omega
   have HNX2 := Lib.hid hnx
   have HPL : pre.length < bs.length + 1 := by omega
   clear hq q1 q2 q3 q5 q6 hnx
   gi_wp2_with (refine ⟨trivial, ?_⟩; gi_at_call 234; refine (callsIn_wide.2 HNX.out).mono ?_; rintro e w2 ⟨vo, rfl, ho, b2⟩; obtain ⟨a9, n9, c9, rfl⟩ : ∃ a n c, vo = Value.slice a n c := row_shape ho; have b3 : Below wr.heap.size wr (w2.alloc (.cells #[.int .i64 (k : Int), .slice a9 n9 c9] 251)) := b2.alloc b2.size _; obtain ⟨fn, tmps, assign, body, hy, hR⟩ := hY pre ⟨nx, k, .slice a9 n9 c9, cs⟩ _ (hJ _ _ _ none hj (below_grown b3) (fun r e => by cases e)) (show FrmG w0.heap.size pre ⟨nx, k, .slice a9 n9 c9, cs⟩ (w2.alloc (.cells #[.int .i64 (k : Int), .slice a9 n9 c9] 251)) from World.ownsRow.mono (World.ownsRow.alloc ho _) hbw.size) HPL; have HB3 := Lib.hid b3; clear b2 b3 ho)
   refine hR.mono ?_
   rintro e W3 ⟨rfl, hj3, hk3⟩
   have hb3 : Below w0.heap.size w0 W3 := (hbw.trans (HB3.out.mono hbw.size)).trans hk3.2.2
   have hx3 : Boxed W3 B 26 v := by
    have h1 : Boxed _ B 26 v := (HB3.out.block B HBX.out.lt).trans HBX.out
    exact (hk3.2.1 B _ _ h1).trans h1
   have hz3 : W.heap.size ≤ W3.heap.size := Nat.le_trans hsz (Nat.le_trans HB3.out.size hk3.2.2.size)
   have hdr : (bs.drop k).drop (8 + cs.length) = bs.drop nx := by rw [List.drop_drop, ← HNX2.out, Nat.add_assoc]
   have hq5 := HQ5.out
   rw [hdr] at hq5
   have HC2 := HC.out
   have HE2 := HEN.out
   rw [hq5] at HC2 HE2
   have HC3 := Lib.hid HC2
   have HE3 := Lib.hid HE2
   have HHB := Lib.hid hb3
   have HHX := Lib.hid hx3
   clear hb3 hx3 hdr hq5 HC2 HE2 hk3 hcb
   gi_wp2
   refine ⟨⟨pre ++ [⟨nx, k, .slice a9 n9 c9, cs⟩], nx, rfl, hnl, ?_, ?_, lastN_snoc _ _, ?_, hj3, HHB.out, HHX.out, hz3⟩, ?_⟩
   ·have := HNX2.out; simp; omega
   ·rw [← HC3.out]; simp
   ·have := HNX2.out; have := HE3.out; omega
   ·simp [intOf]; omega
theorem KeepT.grown {T : TypeId} {X Y : World} {row : Option Nat} (hg : X.grownBy Y row) (hr : ∀ r, row = some r → ∃ o : Obj, X.heap[r]? = some o ∧ o.isCells = false) : KeepT T X Y := fun k cs z hk =>
 hg.block k (Array.getElem?_eq_some_iff.1 hk).1 (fun e => by
  obtain ⟨o, ho, hc⟩ := hr k e.symm
  rw [hk] at ho
  cases ho
  cases hc)
theorem rows_own (lo : Nat) : Own (fun (pre : List FrmX) W => ∀ x ∈ pre, RowB lo W x.v x.c) := fun s X Y row hs hg hr x hx => (hs x hx).keep (KeepT.grown hg hr)
def cellsX (xs : List FrmX) : List Value := xs.flatMap fun x => [.int .i64 ((x.at_ : Nat) : Int), x.v]
theorem cellsX_snoc (xs : List FrmX) (x : FrmX) : cellsX (xs ++ [x]) = cellsX xs ++ [.int .i64 ((x.at_ : Nat) : Int), x.v] := by simp [cellsX]
theorem info_frm : (Tryz.prog.info? 251).map (fun i => (i.zero, i.size, i.bytes)) = some (some (frV 0 (.slice none 0 0)), 2, 32) := by kernel_rfl
set_option maxRecDepth 100000 in
set_option maxHeartbeats 2000000 in
theorem whole_any (A : Option Addr) (n c : Nat) (w : World) :
  Calls Tryz.prog 219 #[.slice A n c] w fun e w' => e = .returned (.func (.func 233) #[] #[.pointer (some ⟨w.heap.size, 0, none⟩)]) ∧ w' = w.alloc (.cells #[.slice A n c] 26) := by
 go_enter Tryz.func219, Tryz.ntmps219
 go_wp2
 go_ret
 exact ⟨rfl, rfl⟩
end Go.Proofs.YtlfikhblmbidmaaGreatDoor
namespace Go.Proofs.YtlfikhblmbidmaaGreatDoor
open Go.RowKit Go.Maps
attribute [local go_sem] Oper.semAt_some
theorem cell_two_new (w : World) (x y : Value) (t : TypeId) : ∀ j u, [x, y][j]? = some u → (w.alloc (.cells #[x, y] t)).cell? ((⟨w.heap.size, 0, none⟩ : Addr).add j) = some u := fun j u hj => by
 rw [Addr.add_lit, Nat.zero_add]
 exact (Blk.new w t #[x, y]).cell (by simpa using hj)
theorem box_keepRow {W : World} {b lo size k : Nat} {t e : TypeId} {x v : Value} {xs : List Value} (h : Boxed W b t x) (hr : W.ownsRow lo e size v k xs) (hte : t ≠ e) : ∀ i, v.ownBlock = some i → i ≠ b := fun i e1 e2 => by
 subst e2
 exact h.not_row hte hr e1.symm
theorem row_type {W : World} {lo size k : Nat} {e T : TypeId} {v : Value} {xs : List Value} (hr : W.ownsRow lo e size v k xs) (hT : e ≠ T) : ∀ i, v.ownBlock = some i → ∀ cs z, W.heap[i]? ≠ some (.cells cs T z) := fun i e1 cs z h => by
 rcases hr.2 with ⟨rfl, _⟩ | ⟨g, cap, cur, rfl, _, hg, _⟩
 ·cases e1
 ·cases e1
  rw [hg] at h
  cases h
  exact hT rfl
theorem box_type {W : World} {b : Nat} {t T : TypeId} {x : Value} (h : Boxed W b t x) (hT : t ≠ T) : ∀ cs z, W.heap[b]? ≠ some (.cells cs T z) := fun cs z e => by
 rw [show W.heap[b]? = _ from h] at e
 cases e
 exact hT rfl
theorem leaf_all {W w1 : World} {lo bO bE k : Nat} {v v' x x' : Value} {xs ys : List Value} {tmp : Obj} (hv : Boxed W bO 239 v) (hE : Boxed W bE 3 x) (hne : bO ≠ bE) (hrow : W.ownsRow lo 251 2 v k xs)
  (hlo : lo ≤ W.heap.size) (hO : lo ≤ bO) (hE2 : lo ≤ bE) (hown : w1.ownsRow lo 251 2 v' (k + 1) ys) (hg : (W.alloc tmp).grownBy w1 v.ownBlock) :
  Boxed w1 bO 239 v ∧ Boxed (w1.setCell ⟨bO, 0, none⟩ v') bE 3 x ∧ KeepsFrom W.heap.size W ((w1.setCell ⟨bO, 0, none⟩ v').setCell ⟨bE, 0, none⟩ x') ∧
  (∀ B, KeepsFrom B W ((w1.setCell ⟨bO, 0, none⟩ v').setCell ⟨bE, 0, none⟩ x')) ∧ KpA lo W ((w1.setCell ⟨bO, 0, none⟩ v').setCell ⟨bE, 0, none⟩ x') ∧
  Boxed ((w1.setCell ⟨bO, 0, none⟩ v').setCell ⟨bE, 0, none⟩ x') bO 239 v' ∧ ((w1.setCell ⟨bO, 0, none⟩ v').setCell ⟨bE, 0, none⟩ x').ownsRow lo 251 2 v' (k + 1) ys ∧ Boxed ((w1.setCell ⟨bO, 0, none⟩ v').setCell ⟨bE, 0, none⟩ x') bE 3 x' := by
 obtain ⟨hv1, hv2, hr2, hk2, hb2⟩ := hv.appended (by decide) hrow hlo hO hown hg
 have hE1 : Boxed w1 bE 3 x := (hE.alloc tmp).kept hg (fun e => box_keepRow hE hrow (by decide) _ e.symm rfl)
 have hE3 := hE1.other (Ne.symm hne) v'
 have hfr : Fr (fun i => i = bO ∨ i = bE ∨ v.ownBlock = some i) W ((w1.setCell ⟨bO, 0, none⟩ v').setCell ⟨bE, 0, none⟩ x') :=
  ((((Fr.refl _ W).alloc tmp).trans' (Fr.of_grown (S := fun i => v.ownBlock = some i) hg (fun i e => e)) (fun i _ e => .inr (.inr e))).setCell (p := ⟨bO, 0, none⟩) (.inl (.inl rfl)) v').setCell (p := ⟨bE, 0, none⟩) (.inl (.inr (.inl rfl))) x'
 have hkt : ∀ T, 239 ≠ T → 3 ≠ T → 251 ≠ T → KeepT T W ((w1.setCell ⟨bO, 0, none⟩ v').setCell ⟨bE, 0, none⟩ x') := fun T h1 h2 h3 => KeepT.of_fr hfr (fun i hi => by
  rcases hi with rfl | rfl | e
  ·exact box_type hv h1
  ·exact box_type hE h2
  ·exact row_type hrow h3 i e)
 have hkf : ∀ B, KeepsFrom B W ((w1.setCell ⟨bO, 0, none⟩ v').setCell ⟨bE, 0, none⟩ x') := fun B => (hk2.trans (KeepsOthers.setCell _ _ _)).from B
 exact ⟨hv1, hE3, hkf _, hkf, ⟨hkt _ (by decide) (by decide) (by decide), hkt _ (by decide) (by decide) (by decide), hb2.setCell hE2 _⟩, hv2.other hne x',
  hr2.kept (grownBy_setCell' _ bE x') (.inr (fun e => box_keepRow hE3 hr2 (by decide) _ e rfl)), hE3.set x'⟩
set_option maxRecDepth 100000 in
set_option maxHeartbeats 2000000 in
theorem all_any (v : Value) (bs : List UInt8) (w : World) (hF0 : FoursAt w) (hv : BsIn w v bs) (hl : bs.length ≤ 100000000) :
  Calls Tryz.prog 192 #[v] w fun e w' => ∃ vo xs, e = .returned (.tuple #[vo, .int .i64 (((allF bs).2 : Nat) : Int)]) ∧ xs.map (·.c) = (allF bs).1 ∧
   w'.ownsRow w.heap.size 251 2 vo xs.length (cellsX xs) ∧ (∀ x ∈ xs, RowB w.heap.size w' x.v x.c) ∧ Below w.heap.size w w' := by
 refine (callsIn_wide (n := 6)).1 ?_
 have hro : Fence.wide.round = none := rfl
 obtain ⟨i0, hi, hz0, hz1, hz2⟩ := info_parts info_frm
 have HI := Lib.hid hi
 have HZ0 := Lib.hid hz0
 have HZ1 := Lib.hid hz1
 have HZ2 := Lib.hid hz2
 clear hi hz0 hz1 hz2
 have HV := Lib.hid hv
 obtain ⟨A, c, rfl, hle, hcm⟩ := hv.shape
 clear hv
 refine callsIn_of_wp_marks Tryz.func192 rfl trivial ?_ hro
 simp only [Tryz.ntmps192, List.size_toArray, List.length_cons, List.length_nil, Nat.reduceAdd, Nat.reduceSub, Array.replicate_succ, Array.replicate_zero, List.push_toArray, List.append_toArray, List.nil_append, List.cons_append]
 gi_wp2_with (refine ⟨trivial, ?_⟩; gi_at_call 219; refine (callsIn_wide.2 (whole_any _ _ _ _)).mono ?_; rintro e w' ⟨rfl, rfl⟩)
 obtain ⟨W0, hW0⟩ : ∃ W0, ((w.alloc (.cells #[.slice none 0 0] 239)).alloc (.cells #[.int .i64 0] 3)).alloc (.cells #[.slice A bs.length c] 26) = W0 := ⟨_, rfl⟩
 have bO : Boxed W0 w.heap.size 239 (.slice none 0 0) := by rw [← hW0]; exact ((Boxed.new w _ _).alloc _).alloc _
 have bE : Boxed W0 (w.heap.size + 1) 3 (.int .i64 0) := by
  rw [← hW0]
  have := (Boxed.new (w.alloc (.cells #[.slice none 0 0] 239)) 3 (.int .i64 0)).alloc (.cells #[.slice A bs.length c] 26)
  rwa [World.size_alloc] at this
 have bB : Boxed W0 (w.heap.size + 1 + 1) 26 (.slice A bs.length c) := by
  rw [← hW0]
  have := Boxed.new ((w.alloc (.cells #[.slice none 0 0] 239)).alloc (.cells #[.int .i64 0] 3)) 26 (.slice A bs.length c)
  rwa [World.size_alloc, World.size_alloc] at this
 have hsz : W0.heap.size = w.heap.size + 3 := by rw [← hW0]; simp
 have hB0 : Below w.heap.size w W0 := by rw [← hW0]; exact (((Below.refl _ w).alloc (Nat.le_refl _) _).alloc (by simp) _).alloc (by simp; omega) _
 rw [hW0]
 clear hW0
 refine wpIn_rangeFunc_gd hro (by omega) (gf := 233) (lb := #[.pointer (some ⟨w.heap.size + 1 + 1, 0, none⟩)]) rfl trivial (enters_of Tryz.func233 (by kernel_rfl) rfl)
  (whole_seq (6 - 1) (by omega) (w.heap.size + 1 + 1) _ bs w W0 hF0 HV.out hl hB0 bB (by omega))
  KpA.trans (fun W l o o' hl ho hc hw => ⟨KeepT.putObj o' ho hc, KeepT.putObj o' ho hc, belowK_b (w := W0) (by omega) W l o o' hl ho hc hw⟩) (Below.refl _ _) (fun _ => rfl)
  (fun pre W => (∃ v, Boxed W w.heap.size 239 v ∧ W.ownsRow w.heap.size 251 2 v pre.length (cellsX pre) ∧ True) ∧ Boxed W (w.heap.size + 1) 3 (.int .i64 ((lastN pre : Nat) : Int)) ∧ (∀ x ∈ pre, RowB w.heap.size W x.v x.c) ∧ Below w.heap.size w W ∧ w.heap.size + 3 ≤ W.heap.size)
  (OwnFrom.and (Own.from (holdsRow_own w.heap.size w.heap.size 239 251 2 (fun pre => List.length pre) (fun pre => cellsX pre) (fun _ _ => True)) _) (OwnFrom.and (Own.from (boxed_own (w.heap.size + 1) 3 (fun pre => .int .i64 ((lastN pre : Nat) : Int))) _) (OwnFrom.and (Own.from (rows_own w.heap.size) _) (OwnFrom.and (ownFrom_below (Nat.le_refl _) (by omega)) (fun s A B row hs hg hr => Nat.le_trans hs hg.size)))))
  (fun pre x s A B row hs hg hr => hs.keep (KeepT.grown hg (fun r e => (hr r e).2)))
  ⟨⟨_, bO, World.ownsRow_nil _ _ _ _, trivial⟩, bE, fun x hx => by (cases hx), hB0, by omega⟩
  (fun x a' W => ∃ b7, Blk W b7 251 #[.int .i64 ((x.at_ : Nat) : Int), x.v] ∧ a' = { tmps := #[.slice A bs.length c, undef, .slice none 0 0, .int .i64 0, .pointer (some ⟨w.heap.size, 0, none⟩), .pointer (some ⟨w.heap.size + 1, 0, none⟩), .int .i64 ((x.nx : Nat) : Int), .pointer (some ⟨b7, 0, none⟩),
   .slice A bs.length c, .func (.func 233) #[] #[.pointer (some ⟨w.heap.size + 1 + 1, 0, none⟩)], .int .i64 ((x.nx : Nat) : Int), frV x.at_ x.v, undef, undef, undef, undef, undef, undef, undef], defers := [] })
  (fun x a' s X Y row hs hg hr => ?ax) ?assign ?body ?done
 case ax =>
  obtain ⟨b7, h7, h8⟩ := hs
  exact ⟨b7, h7.of_block (hg.block b7 h7.lt (fun e => by
   obtain ⟨_, o, ho, hc⟩ := hr b7 e.symm
   rw [show X.heap[b7]? = _ from h7] at ho
   cases ho
   cases hc)), h8⟩
 case assign =>
  rintro l pre ⟨nx, at_, v, cs⟩ W K ⟨⟨vo, h1, h2, _⟩, h3, h4, h5, h6⟩ hG hK
  have HG := Lib.hid hG
  obtain ⟨a9, n9, c9, rfl⟩ : ∃ a n c, v = Value.slice a n c := row_shape (show W.ownsRow _ _ _ v _ _ from hG)
  clear hG
  gi_wp2
  have hbn : Below W.heap.size W (W.alloc (.cells #[.int .i64 (at_ : Int), .slice a9 n9 c9] 251)) := (Below.refl _ W).alloc (Nat.le_refl _) _
  refine hK _ _ ((KeepsOthers.alloc W _).from _) ⟨KeepT.below hbn, KeepT.below hbn, (Below.refl _ W).alloc h5.size _⟩ ⟨⟨vo, h1.alloc _, h2.alloc _, trivial⟩, h3.alloc _, fun x hx => (h4 x hx).keep (KeepT.below hbn), h5.alloc h5.size _, by simp; omega⟩ (RowB.keep HG.out (KeepT.below hbn)) ⟨W.heap.size, Blk.new W _ _, rfl⟩
 case body =>
  rintro l pre ⟨nx, at_, v, cs⟩ a' W ⟨⟨vo, h1, h2, _⟩, h3, h4, h5, h6⟩ hG ⟨b7, h7, rfl⟩ hlt
  have HG := Lib.hid hG
  obtain ⟨a9, n9, c9, rfl⟩ : ∃ a n c, v = Value.slice a n c := row_shape (show W.ownsRow _ _ _ v _ _ from hG)
  clear hG
  have hc1 := h1.cell
  have hc3 := h3.cell
  have hc7 := h7.cell (i := 0) rfl
  have hc8 := h7.cell (i := 1) rfl
  have H1 := Lib.hid h1
  have H2 := Lib.hid h2
  have H3 := Lib.hid h3
  have H4 := Lib.hid h4
  have H5 := Lib.hid h5
  clear h1 h2 h3 h4 h5 h7
  gi_wp2_with (gi_at_builtin; refine wpListIn_append_own _ rfl _ _ 239 rfl w.heap.size 251 i0 (frV 0 (.slice none 0 0)) 2 32 Tryz.underlying239 HI.out HZ0.out HZ1.out HZ2.out rfl (by decide) _ _ _ rfl (H2.out.alloc _) ⟨W.heap.size, 0, none⟩ 1 1 [.int .i64 (at_ : Int), .slice a9 n9 c9] rfl rfl (cell_two_new _ _ _ _) (by simp [Value.oneCell']) (by unfold maxLen; omega) (by omega) (by have := H5.out.size; simp; omega) ?_; intro v' w1 hown' hgrow _; obtain ⟨g', cap', rfl⟩ := ownsRow_succ hown'; have HL := Lib.hid (leaf_all (x' := .int .i64 (nx : Int)) H1.out H3.out (by omega) H2.out H5.out.size (Nat.le_refl _) (by omega) hown' hgrow); have q1 := HL.out.1.cell; have q2 := HL.out.1.frozen; have q3 := HL.out.2.1.cell; have q4 := HL.out.2.1.frozen; clear hown' hgrow)
  obtain ⟨_, _, _, k1, k2, k3, k4, k5⟩ := HL.out
  refine ⟨k1 _, k2, ⟨_, k3, ?_⟩, ?_, fun x hx => ?_, H5.out.trans k2.2.2, Nat.le_trans h6 k2.2.2.size⟩
  ·rw [cellsX_snoc, List.length_append]
   exact k4
  ·rw [lastN_snoc]
   exact k5
  ·rcases List.mem_append.1 hx with hx | hx
   ·exact (H4.out x hx).keep k2.1
   ·rw [List.mem_singleton.1 hx]
    exact RowB.keep HG.out k2.1
 case done =>
  rintro D ys W hD ⟨hc, hlast⟩ ⟨⟨vo, h1, h2, _⟩, h3, h4, h5, h6⟩ hK
  obtain ⟨a9, n9, c9, rfl⟩ := row_shape h2
  have hc1 := h1.cell
  have hc3 := h3.cell
  gi_wp2
  gi_region
  gi_wp2
  have hK2 : W.drew.heap[D]? = some (.deferred (some [])) := hK
  refine ⟨by simp, .inl ⟨_, _, rfl, run_takeDeferred hK2, ?_⟩⟩
  refine ⟨.tuple #[.slice a9 n9 c9, .int .i64 (((allF bs).2 : Nat) : Int)], by simp [results, Tryz.results192, go_sem], _, ys, rfl, hc, ?_, fun x hx => ?_, ?_⟩
  ·exact ownsRow_putObj (show W.drew.ownsRow _ _ _ _ _ _ from h2) (.deferred none) hK2 rfl
  ·exact RowB.keep (show RowB w.heap.size W.drew x.v x.c from h4 x hx) (KeepT.putObj _ hK2 rfl)
  ·exact (h5.trans ((Below.refl _ W).drew)).trans (belowK_b (w := W0) (by omega) W.drew D _ _ hD hK2 rfl rfl)
end Go.Proofs.YtlfikhblmbidmaaGreatDoor