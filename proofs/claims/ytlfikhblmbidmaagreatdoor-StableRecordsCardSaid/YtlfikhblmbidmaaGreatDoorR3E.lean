/- The reference's reader (skaldref03, 17): Text, numbers, ballots, Parse. -/
import Derived.Test.YtlfikhblmbidmaaGreatDoorR3D
import Derived.Test.YtlfikhblmbidmaaGreatDoorParsP
set_option linter.unusedVariables false
set_option linter.unusedSimpArgs false
namespace Go.Proofs.YtlfikhblmbidmaaGreatDoor
open Go.RowKit Go.Maps

theorem rdT_of {s : Rd} {n : Nat} {r : List UInt8} (h : rdU s = (n, some r)) : rdT s = if n ≤ 65536 ∧ n ≤ r.length then (r.take n, some (r.drop n)) else ([], none) := by
  cases s with
  | none => cases h
  | some b =>
    simp only [rdU] at h
    simp only [rdT]
    cases hn : numB 0 0 b with
    | none => rw [hn] at h; simp at h
    | some x =>
      obtain ⟨m, k⟩ := x
      rw [hn] at h
      simp only [Prod.mk.injEq, Option.some.injEq] at h
      obtain ⟨rfl, rfl⟩ := h
      simp only [List.length_drop, List.drop_drop]
theorem rdT_of_none {s : Rd} {n : Nat} (h : rdU s = (n, none)) : rdT s = ([], none) := by
  cases s with
  | none => rfl
  | some b =>
    simp only [rdU] at h
    simp only [rdT]
    cases hn : numB 0 0 b with
    | none => rfl
    | some x => rw [hn] at h; simp at h
theorem rdU_len {s : Rd} (l : Nat) (h : (s.getD []).length ≤ l) : ((rdU s).2.getD []).length ≤ l := by
  cases hu : rdU s with
  | mk n t =>
    cases t with
    | none => exact Nat.zero_le _
    | some r =>
      obtain ⟨_, rfl⟩ := rdU_dec hu
      have : (uintB n ++ r).length ≤ l := h
      rw [List.length_append] at this
      show r.length ≤ l
      omega
theorem rdU_lt (s : Rd) : (rdU s).1 < 18446744073709551616 := by
  cases hu : rdU s with
  | mk n t =>
    cases t with
    | some r => exact (rdU_dec hu).1
    | none =>
      cases s with
      | none => simp only [rdU] at hu; cases hu; decide
      | some b =>
        simp only [rdU] at hu
        cases hn : numB 0 0 b with
        | none => rw [hn] at hu; simp at hu; rw [← hu]; decide
        | some x => rw [hn] at hu; simp at hu
theorem RrStep.drop {w2 : World} {p c n : Nat} {A : Option Addr} {r : List UInt8} (h : RrAt w2 p (.slice A r.length c) (some r)) (hn : n ≤ r.length) (A' : Option Addr) (c' : Nat) (h1 : r.length - n = 0 ∨ A' = A.map (fun x => x.add n)) (h2 : r.length - n ≤ c') (h3 : c' ≤ maxLen) :
    RrStep w2 p (w2.setCell ⟨p, 1, none⟩ (.slice A' (r.length - n) c')) (.slice A' (r.length - n) c') (some (r.drop n)) := by
  have hl : (r.drop n).length = r.length - n := by simp
  have hb : BsIn w2 (.slice A' (r.length - n) c') (r.drop n) := by
    refine ⟨A', c', by rw [hl], by rw [hl]; exact h2, h3, fun h0 => ?_⟩
    rw [hl] at h0
    obtain rfl := h1.resolve_left (by omega)
    obtain ⟨A2, c2, e, _, _, h5⟩ := h.bs
    cases e
    obtain ⟨g, off, rfl, h6, h7⟩ := h5 (by show 0 < r.length; omega)
    refine ⟨g, off + n, by simp only [Option.map_some, Addr.add_lit], h6, fun i z hz => ?_⟩
    rw [List.getElem?_drop] at hz
    rw [Nat.add_assoc]
    exact h7 _ z hz
  exact h.put (by simp) hb
theorem RrAt.cut {w : World} {p c n : Nat} {A : Option Addr} {r : List UInt8} (h : RrAt w p (.slice A r.length c) (some r)) (hn : n ≤ r.length) : BsIn w (.slice A n c) (r.take n) := by
  obtain ⟨A', c', e, h1, h2, h3⟩ := h.bs
  cases e
  have hl : (r.take n).length = n := by rw [List.length_take]; omega
  refine ⟨A, c, by rw [hl], by rw [hl]; exact Nat.le_trans hn h1, h2, fun h0 => ?_⟩
  rw [hl] at h0
  obtain ⟨g, off, e2, h4, h5⟩ := h3 (by show 0 < r.length; omega)
  refine ⟨g, off, e2, h4, fun i z hz => ?_⟩
  rw [List.getElem?_take] at hz
  split at hz
  · exact h5 i z hz
  · cases hz

set_option maxRecDepth 100000 in
set_option maxHeartbeats 2000000 in
theorem rrtext (p : Nat) (v : Value) (s : Rd) (w : World) (h : RrAt w p v s) (hl : (s.getD []).length ≤ 100000000) :
    Calls Tryz.prog 93 #[.pointer (some ⟨p, 0, none⟩)] w fun e w' => ∃ v', e = .returned (.string (sB (rdT s).1)) ∧ RrStep w p w' v' (rdT s).2 := by
  have HU := Lib.hid (rruint p v s w h hl)
  have hlen := rdU_len _ hl
  have hlt := rdU_lt s
  have h0 := h.blk.cell (i := 0) (v := .bool true) rfl
  clear h
  obtain ⟨⟨n, t⟩, hu⟩ : ∃ x, rdU s = x := ⟨_, rfl⟩
  rw [hu] at HU hlen hlt
  cases t with
  | none =>
    rw [rdT_of_none hu]
    clear hu
    go_enter Tryz.func93, Tryz.ntmps93
    go_wp2_with (first
      | (go_at_call 175; refine HU.out.mono ?_; rintro e w2 ⟨v2, rfl, hs⟩; have HS := Lib.hid hs; have c0 := hs.at_.blk.cell (i := 0) (v := .bool true) rfl; have c2 := hs.at_.blk.cell (i := 2) (v := .bool true) rfl; clear hs)
      | (go_at_call 177; refine (rrvalid p _ c0).mono ?_; rintro e w' ⟨rfl, rfl⟩))
    go_returns
    exact ⟨_, rfl, HS.out⟩
  | some r =>
    have hlen : r.length ≤ 100000000 := hlen
    have hlt : n < 18446744073709551616 := hlt
    have hwl : IntKind.u64.wrap (r.length : Int) = (r.length : Int) := by rw [IntKind.wrap_u64]; omega
    rw [rdT_of hu]
    clear hu
    by_cases hc : n ≤ 65536 ∧ n ≤ r.length
    case neg =>
      rw [if_neg hc]
      have hor : 65536 < n ∨ (n ≤ 65536 ∧ r.length < n) := by omega
      have hd : (decide (65536 < n) || decide (r.length < n)) = true := by simp; omega
      rcases hor with h1 | ⟨h1, h2⟩
      · have d1 : decide ((n : Int) > 65536) = true := decide_eq_true (by omega)
        clear hd hc
        go_enter Tryz.func93, Tryz.ntmps93
        go_wp2_with (first
          | (go_at_call 175; refine HU.out.mono ?_; rintro e w2 ⟨v2, rfl, hs⟩; have HS := Lib.hid hs; have c0 := hs.at_.blk.cell (i := 0) (v := .bool true) rfl; have c1 := hs.at_.blk.cell (i := 1) (v := v2) rfl; have c2 := hs.at_.blk.cell (i := 2) (v := .bool false) rfl; clear hs)
          | (go_at_call 177; refine (rrvalid p _ c0).mono ?_; rintro e w' ⟨rfl, rfl⟩)
          | (go_at_call 176; refine (rrfail p _ _ _ HS.out.at_).mono ?_; rintro e w3 ⟨rfl, hs⟩; have HS3 := Lib.hid hs; clear hs))
        go_returns
        exact ⟨_, rfl, HS.out.trans HS3.out⟩
      · have d1 : decide ((n : Int) > 65536) = false := decide_eq_false (by omega)
        have d2 : decide ((n : Int) > (r.length : Int)) = true := decide_eq_true (by omega)
        clear hd hc
        go_enter Tryz.func93, Tryz.ntmps93
        go_wp2_with (first
          | (go_at_call 175; refine HU.out.mono ?_; rintro e w2 ⟨v2, rfl, hs⟩; obtain ⟨A, c, rfl⟩ := hs.at_.vs; have HS := Lib.hid hs; have c0 := hs.at_.blk.cell (i := 0) (v := .bool true) rfl; have c1 := hs.at_.blk.cell (i := 1) (v := .slice A r.length c) rfl; have c2 := hs.at_.blk.cell (i := 2) (v := .bool false) rfl; clear hs)
          | (go_at_call 177; refine (rrvalid p _ c0).mono ?_; rintro e w' ⟨rfl, rfl⟩)
          | (go_at_call 176; refine (rrfail p _ _ _ HS.out.at_).mono ?_; rintro e w3 ⟨rfl, hs⟩; have HS3 := Lib.hid hs; clear hs))
        go_returns
        exact ⟨_, rfl, HS.out.trans HS3.out⟩
    case pos =>
      rw [if_pos hc]
      obtain ⟨hn1, hn2⟩ := hc
      have d1 : decide ((n : Int) > 65536) = false := decide_eq_false (by omega)
      have d2 : decide ((n : Int) > (r.length : Int)) = false := decide_eq_false (by omega)
      go_enter Tryz.func93, Tryz.ntmps93
      go_upto_region 7 with (first
        | (go_at_call 175; refine HU.out.mono ?_; rintro e w2 ⟨v2, rfl, hs⟩; obtain ⟨A, c, rfl⟩ := hs.at_.vs; have HS := Lib.hid hs; have c0 := hs.at_.blk.cell (i := 0) (v := .bool true) rfl; have c1 := hs.at_.blk.cell (i := 1) (v := .slice A r.length c) rfl; have c2 := hs.at_.blk.cell (i := 2) (v := .bool false) rfl; have f1 := hs.at_.blk.frozen 1; clear hs)
        | (go_at_call 177; refine (rrvalid p _ c0).mono ?_; rintro e w' ⟨rfl, rfl⟩))
      have hcv := conv_bs (RrAt.cut HS.out.at_ hn2)
      have hcc : r.length ≤ c ∧ c ≤ maxLen := by
        obtain ⟨A', c', e, k1, k2, _⟩ := HS.out.at_.bs
        cases e
        exact ⟨k1, k2⟩
      obtain ⟨hc1, hc2⟩ := hcc
      have hnc : n ≤ c := by omega
      go_wp2_with fail
      · go_returns
        have h9 := RrStep.drop (r := r) HS.out.at_ hn2 A 0 (.inl (by omega)) (by omega) (by unfold maxLen; omega)
        exact ⟨rfl, _, HS.out.trans h9⟩
      · go_returns
        have h9 := RrStep.drop (r := r) HS.out.at_ hn2 (A.map (fun x => x.add n)) (c - n) (.inr rfl) (by omega) (by omega)
        exact ⟨rfl, _, HS.out.trans h9⟩

/-- Bytes lie in no block without bytes. -/
theorem BsIn.setX {w : World} {q i : Nat} {u y : Value} {T : TypeId} {cs : Array Value} {bs : List UInt8} (h : BsIn w u bs) (hb : Blk w q T cs) (hcs : ∀ (i : Nat) (x : Value), cs[i]? = some x → ∀ z, x ≠ u8V z) : BsIn (w.setCell ⟨q, i, none⟩ y) u bs := by
  obtain ⟨A, cap, e, hle, hm, hc⟩ := h
  refine ⟨A, cap, e, hle, hm, fun h0 => ?_⟩
  obtain ⟨b, off, hA, hlt, hcells⟩ := hc h0
  refine ⟨b, off, hA, by simpa [World.setCell] using hlt, fun j z hz => ?_⟩
  have hcell := hcells j z hz
  have hne : b ≠ q := by
    rintro rfl
    have h2 : w.cell? ⟨b, off + j, none⟩ = cs[off + j]? := by simp [World.cell?, show w.heap[b]? = _ from hb]
    rw [h2] at hcell
    exact hcs _ _ hcell z rfl
  exact (World.cell?_setCell_other _ _ _ _ (by simp [hne])).trans hcell
theorem RrAt.setX {w : World} {p q i : Nat} {v y : Value} {s : Rd} {T : TypeId} {cs : Array Value} (h : RrAt w p v s) (hb : Blk w q T cs) (hcs : ∀ (i : Nat) (x : Value), cs[i]? = some x → ∀ z, x ≠ u8V z) (hne : q ≠ p) : RrAt (w.setCell ⟨q, i, none⟩ y) p v s :=
  ⟨h.blk.of_block (Below.heap_setCell _ _ _ _ (Ne.symm hne)), h.bs.setX hb hcs, h.nil⟩
theorem no_bytes2 (x y : Int) : ∀ (i : Nat) (z : Value), (#[.int .i64 x, .int .i64 y] : Array Value)[i]? = some z → ∀ b, z ≠ u8V b := fun i z h b e => by
  subst e
  have hi := (Array.getElem?_eq_some_iff.1 h).1
  have hi : i < 2 := hi
  rcases (show i = 0 ∨ i = 1 by omega) with rfl | rfl <;> simp at h
theorem rdM_len {most : Nat} {s : Rd} (l : Nat) (h : (s.getD []).length ≤ l) : ((rdM most s).2.getD []).length ≤ l := by
  unfold rdM
  split
  · exact rdU_len l h
  · exact Nat.zero_le _
theorem rdT_len {s : Rd} (l : Nat) (h : (s.getD []).length ≤ l) : ((rdT s).2.getD []).length ≤ l := by
  have h1 := rdU_len l h
  cases hu : rdU s with
  | mk n t =>
    rw [hu] at h1
    cases t with
    | none => rw [rdT_of_none hu]; exact Nat.zero_le _
    | some r =>
      rw [rdT_of hu]
      split
      · show (r.drop n).length ≤ l
        have : r.length ≤ l := h1
        rw [List.length_drop]
        omega
      · exact Nat.zero_le _
theorem rsmall (p most : Nat) (v : Value) (s : Rd) (w : World) (h : RrAt w p v s) (hl : (s.getD []).length ≤ 100000000) (hm : most < 9223372036854775808) :
    Calls Tryz.prog 91 #[.pointer (some ⟨p, 0, none⟩), .int .u64 (most : Int)] w fun e w' => ∃ v', e = .returned (.int .i64 ((rdM most s).1 : Int)) ∧ RrStep w p w' v' (rdM most s).2 := by
  have HU := Lib.hid (rruint p v s w h hl)
  clear h
  obtain ⟨n, hn⟩ : ∃ n, (rdU s).1 = n := ⟨_, rfl⟩
  by_cases hle : n ≤ most
  · rw [rdM_yes (by rw [hn]; exact hle)]
    rw [hn] at HU ⊢
    have hd : decide ((n : Int) > (most : Int)) = false := decide_eq_false (by omega)
    have hw : IntKind.i64.wrap (n : Int) = (n : Int) := by rw [IntKind.wrap_i64]; omega
    go_enter Tryz.func91, Tryz.ntmps91
    go_wp2_with (go_at_call 175; refine HU.out.mono ?_; rintro e w2 ⟨v2, rfl, hs⟩; have HS := Lib.hid hs; clear hs)
    go_returns
    exact ⟨_, rfl, HS.out⟩
  · rw [rdM_no (by rw [hn]; exact hle)]
    rw [hn] at HU
    have hd : decide ((n : Int) > (most : Int)) = true := decide_eq_true (by omega)
    go_enter Tryz.func91, Tryz.ntmps91
    go_wp2_with (first
      | (go_at_call 175; refine HU.out.mono ?_; rintro e w2 ⟨v2, rfl, hs⟩; have HS := Lib.hid hs; clear hs)
      | (go_at_call 176; refine (rrfail p _ _ _ HS.out.at_).mono ?_; rintro e w3 ⟨rfl, hs⟩; have HS3 := Lib.hid hs; clear hs))
    go_returns
    exact ⟨_, rfl, HS.out.trans HS3.out⟩
theorem rsmallc (p : Nat) (c : Int) (most : Nat) (hc : (most : Int) = c) (v : Value) (s : Rd) (w : World) (h : RrAt w p v s) (hl : (s.getD []).length ≤ 100000000) (hm : most < 9223372036854775808) :
    Calls Tryz.prog 91 #[.pointer (some ⟨p, 0, none⟩), .int .u64 c] w fun e w' => ∃ v', e = .returned (.int .i64 ((rdM most s).1 : Int)) ∧ RrStep w p w' v' (rdM most s).2 := hc ▸ rsmall p most v s w h hl hm
set_option maxRecDepth 100000 in
set_option maxHeartbeats 2000000 in
theorem rballot_any (p : Nat) (v : Value) (s : Rd) (w : World) (h : RrAt w p v s) (hl : (s.getD []).length ≤ 100000000) :
    Calls Tryz.prog 92 #[.pointer (some ⟨p, 0, none⟩)] w fun e w' => ∃ v', e = .returned (balV ((rdM 1073741824 s).1 : Nat) ((rdM 6 (rdM 1073741824 s).2).1 : Nat)) ∧ RrStep w p w' v' (rdM 6 (rdM 1073741824 s).2).2 := by
  have hb := box_below w (.cells #[.int .i64 0, .int .i64 0] 24)
  have H1 := Lib.hid (h.below hb)
  have KB := Lib.hid (Blk.new w 24 #[.int .i64 0, .int .i64 0])
  have HS0 := Lib.hid (RrStep.below h hb)
  have hpl := h.blk.lt
  have hl2 := rdM_len (most := 1073741824) _ hl
  obtain ⟨⟨R, s1⟩, hr⟩ : ∃ x, rdM 1073741824 s = x := ⟨_, rfl⟩
  have HR := Lib.hid (rsmallc p 1073741824 1073741824 rfl v s _ H1.out hl (by decide))
  rw [hr] at HR hl2 ⊢
  obtain ⟨⟨D, s2⟩, hd⟩ : ∃ x, rdM 6 s1 = x := ⟨_, rfl⟩
  show Calls Tryz.prog 92 #[.pointer (some ⟨p, 0, none⟩)] w fun e w' => ∃ v', e = .returned (balV (R : Nat) ((rdM 6 s1).1 : Nat)) ∧ RrStep w p w' v' (rdM 6 s1).2
  have HD := Lib.hid (fun (v : Value) (w : World) (h : RrAt w p v s1) => rsmallc p 6 6 rfl v s1 w h hl2 (by decide))
  rw [hd] at HD ⊢
  clear h hr hd hb
  go_enter Tryz.func92, Tryz.ntmps92
  go_wp2_with (first
    | (go_at_call 91; (with_reducible refine HR.out.mono ?_); rintro e w2 ⟨v2, rfl, hs⟩; have HS := Lib.hid hs; have K2 := Lib.hid (KB.out.fr hs.fr (fun e => by have e : w.heap.size = p := e; omega)); clear hs)
    | (go_at_call 91; (with_reducible refine (HD.out _ _ HS.out.at_).mono ?_); rintro e w3 ⟨v3, rfl, hs⟩; have HS3 := Lib.hid hs; have K3 := Lib.hid (K2.out.fr hs.fr (fun e => by have e : w.heap.size = p := e; omega)); have k0 := K3.out.cell (i := 0) (v := .int .i64 0) rfl; have k1 := K3.out.cell (i := 1) (v := .int .i64 0) rfl; have g0 := K3.out.frozen 0; have g1 := K3.out.frozen 1; clear hs))
  have KF := (K3.out.set 0 (.int .i64 (R : Int))).set 1 (.int .i64 (D : Int))
  have r0 := KF.cell (i := 0) (v := .int .i64 (R : Int)) rfl
  have r1 := KF.cell (i := 1) (v := .int .i64 (D : Int)) rfl
  have hne : w.heap.size ≠ p := by omega
  refine bodyPost_ret (v := balV (R : Int) (D : Int)) (by simp [results, Tryz.results92, go_sem, r0, r1]) rfl ?_
  have a1 := HS3.out.at_.setX (i := 0) (y := .int .i64 (R : Int)) K3.out (no_bytes2 0 0) hne
  have a2 := a1.setX (i := 1) (y := .int .i64 (D : Int)) (K3.out.set 0 (.int .i64 (R : Int))) (no_bytes2 _ 0) hne
  have hfr := (HS.out.fr.trans HS3.out.fr)
  have hsz := hfr.size
  refine ⟨v3, rfl, ⟨?_, a2⟩⟩
  exact (((Fr.of_below (S := S1 p) (box_below w (.cells #[.int .i64 0, .int .i64 0] 24))).trans hfr).setCell (.inr (Nat.le_refl _)) _).setCell (.inr (Nat.le_refl _)) _
end Go.Proofs.YtlfikhblmbidmaaGreatDoor
