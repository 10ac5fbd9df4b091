/- The reference's reader (skaldref03): Read, Fail, End, valid. -/
import Derived.Test.YtlfikhblmbidmaaGreatDoorR3B
set_option linter.unusedVariables false
set_option linter.unusedSimpArgs false
namespace Go.Proofs.YtlfikhblmbidmaaGreatDoor
open Go.RowKit Go.Maps

/-- The reader at p, its slice v; s: what it has still to read. -/
structure RrAt (w : World) (p : Nat) (v : Value) (s : Rd) : Prop where
  blk : Blk w p 222 #[.bool true, v, .bool s.isNone]
  bs : BsIn w v (s.getD [])
  nil : s = none → v = .slice none 0 0
theorem RrAt.below {w w' : World} {p : Nat} {v : Value} {s : Rd} (h : RrAt w p v s) (k : Below w.heap.size w w') : RrAt w' p v s := ⟨h.blk.of_block (k.block _ h.blk.lt), h.bs.below k, h.nil⟩
/-- Bytes lie in no block of a reader. -/
theorem BsIn.setR {w : World} {p i : Nat} {u x y : Value} {b1 : Value} {bs : List UInt8} (h : BsIn w u bs) (hb : Blk w p 222 #[.bool true, x, b1]) (hx : ∃ A n c, x = .slice A n c) (h1 : ∃ z, b1 = .bool z) : BsIn (w.setCell ⟨p, i, none⟩ y) u bs := by
  obtain ⟨A, cap, e, hle, hm, hc⟩ := h
  refine ⟨A, cap, e, hle, hm, fun h0 => ?_⟩
  obtain ⟨b, off, hA, hlt, hcells⟩ := hc h0
  refine ⟨b, off, hA, by simpa [World.setCell] using hlt, fun j z hz => ?_⟩
  have hcell := hcells j z hz
  have hne : b ≠ p := by
    rintro rfl
    have h2 : w.cell? ⟨b, off + j, none⟩ = (#[.bool true, x, b1] : Array Value)[off + j]? := by simp [World.cell?, show w.heap[b]? = _ from hb]
    rw [h2] at hcell
    obtain ⟨A', n', c', rfl⟩ := hx
    obtain ⟨z', rfl⟩ := h1
    have hj : off + j < 3 := (Array.getElem?_eq_some_iff.1 hcell).1
    rcases (show off + j = 0 ∨ off + j = 1 ∨ off + j = 2 by omega) with e | e | e <;> rw [e] at hcell <;> simp at hcell
  exact (World.cell?_setCell_other _ _ _ _ (by simp [hne])).trans hcell
structure RrStep (w : World) (p : Nat) (w' : World) (v' : Value) (s' : Rd) : Prop where
  fr : Fr (S1 p) w w'
  at_ : RrAt w' p v' s'
theorem RrStep.refl {w : World} {p : Nat} {v : Value} {s : Rd} (h : RrAt w p v s) : RrStep w p w v s := ⟨Fr.refl _ _, h⟩
theorem RrStep.trans {w w' w'' : World} {p : Nat} {v v' : Value} {s s' : Rd} (h : RrStep w p w' v s) (k : RrStep w' p w'' v' s') : RrStep w p w'' v' s' := ⟨h.fr.trans k.fr, k.at_⟩
theorem RrStep.below {w w' : World} {p : Nat} {v : Value} {s : Rd} (h : RrAt w p v s) (k : Below w.heap.size w w') : RrStep w p w' v s := ⟨Fr.of_below k, h.below k⟩
theorem RrAt.vs {w : World} {p : Nat} {v : Value} {s : Rd} (h : RrAt w p v s) : ∃ A c, v = .slice A (s.getD []).length c := by
  obtain ⟨A, c, e, _⟩ := h.bs
  exact ⟨A, c, e⟩
/-- The slice set anew. -/
theorem RrAt.put {w : World} {p : Nat} {v u : Value} {s : Rd} {bs : List UInt8} (h : RrAt w p v s) (hs : s ≠ none) (hu : BsIn w u bs) : RrStep w p (w.setCell ⟨p, 1, none⟩ u) u (some bs) := by
  obtain ⟨A, c, rfl⟩ := h.vs
  refine ⟨(Fr.refl (S1 p) w).setCell (.inl (show S1 p p from rfl)) _, ⟨?_, hu.setR h.blk ⟨_, _, _, rfl⟩ ⟨_, rfl⟩, fun e => by cases e⟩⟩
  have := h.blk.set 1 u
  cases s with
  | none => exact absurd rfl hs
  | some b => exact this
theorem run_append_zero (ty : TypeId) (g : Nat) (A : Option Addr) (c : Nat) (w : World) : (Builtin.append_ #[26, 26] ty #[.slice (some ⟨g, 0, none⟩) 0 0, .slice A 0 c]).run Tryz.prog w = .ok (.slice (some ⟨g, 0, none⟩) 0 0) w := by
  obtain ⟨i0, hi, hz0, hz1, hz2⟩ := info_parts info_u8
  cases A <;> simp [Builtin.append_, run_underlying Tryz.underlying26, sizeOf, typeInfo, hi, Builtin.lenOf, Builtin.firstCells, storeCells, loadCells, loadCellsFrom]
theorem wpList_append_zero {w : World} {ops : Array Oper} {rest : List Oper} {o : Oper} {a : Act} {Q : Exit → Act → World → Prop} (hgd : o.guard = none) (s x : Operand)
    (ho : o.op = .call { callee := .builtin .append, args := #[s, x], argTypes := #[26, 26] })
    (g : Nat) (hs : a.eval s = .slice (some ⟨g, 0, none⟩) 0 0) (A : Option Addr) (c : Nat) (hx : a.eval x = .slice A 0 c)
    (h : wpList Tryz.prog ops Q rest (a.put o.dst (.slice (some ⟨g, 0, none⟩) 0 0)) w) : wpList Tryz.prog ops Q (o :: rest) a w := by
  refine wpList_plain hgd fun K hK => ?_
  have hrun := run_append_zero o.type g A c w
  unfold Oper.wp execOp
  simp only [ho, resolve, invoke, builtin, Sem.run_bind, Sem.run_pure, Result.andThen_ok, List.map_toArray, List.map_cons, List.map_nil, hs, hx, hrun]
  exact hK _ _ h

theorem rrvalid (p : Nat) (w : World) (h : w.cell? ⟨p, 0, none⟩ = some (.bool true)) : Calls Tryz.prog 177 #[.pointer (some ⟨p, 0, none⟩)] w fun e w' => e = .returned (.bool true) ∧ w = w' := by
  go_enter Tryz.func177, Tryz.ntmps177
  go_wp2_with fail
  go_returns
  exact ⟨rfl, rfl⟩
set_option maxRecDepth 100000 in
set_option maxHeartbeats 2000000 in
theorem rrread (u : Value) (bs : List UInt8) (w : World) (h : BsIn w u bs) (hl : bs.length ≤ 100000000) :
    Calls Tryz.prog 90 #[u] w fun e w' => ∃ p v, e = .returned (.pointer (some ⟨p, 0, none⟩)) ∧ RrAt w' p v (some bs) ∧ w.heap.size ≤ p ∧ Below w.heap.size w w' := by
  obtain ⟨i0, hi, hz0, hz1, hz2⟩ := info_parts info_u8
  have HI := Lib.hid hi
  have HZ0 := Lib.hid hz0
  have HZ1 := Lib.hid hz1
  have HZ2 := Lib.hid hz2
  clear hi hz0 hz1 hz2
  obtain ⟨A, c, rfl, hle, hm, hcells⟩ := h
  have hb1 := box_below w (.cells #[] 5)
  by_cases h0 : bs.length = 0
  · obtain rfl : bs = [] := List.eq_nil_of_length_eq_zero h0
    clear hcells
    show Calls Tryz.prog 90 #[.slice A 0 c] w _
    go_enter Tryz.func90, Tryz.ntmps90
    go_wp2_with (at_builtin; refine wpList_append_zero rfl _ _ rfl w.heap.size rfl A c rfl ?_)
    clear hl hle h0
    refine bodyPost_ret (v := .pointer (some ⟨w.heap.size + 1, 0, none⟩)) (by simp [results, Tryz.results90, go_sem]) rfl ?_
    refine ⟨_, _, rfl, ⟨blk_new1 _ _ _ _, ⟨_, 0, rfl, Nat.le_refl _, by unfold maxLen; omega, fun h => absurd h (by simp)⟩, fun e => by cases e⟩, by omega, hb1.alloc hb1.size _⟩
  · obtain ⟨b, off, rfl, hb, hc⟩ := hcells (by omega)
    have HM : Hid (∀ j z, (bs.map u8V)[j]? = some z → w.cell? ((⟨b, off, none⟩ : Addr).add j) = some z) := fun j z hz => by
      rw [List.getElem?_map] at hz
      cases hy : bs[j]? with
      | none => rw [hy] at hz; cases hz
      | some y =>
        rw [hy] at hz
        cases hz
        rw [Addr.add_lit]
        exact hc j y hy
    have HFN := Lib.hid (show (bs.map u8V).length = bs.length * 1 by simp)
    clear hcells hc
    go_enter Tryz.func90, Tryz.ntmps90
    go_wp2_with (at_builtin; refine wpList_append_own_at _ rfl _ _ 26 rfl w.heap.size 5 i0 (.int .u8 0) 1 1 Tryz.underlying26 HI.out HZ0.out HZ1.out HZ2.out rfl (by decide) _ 0 [] rfl (World.ownsRow_made w #[] 0 (Nat.le_refl _) (Nat.zero_le _) (by simp)) ⟨b, off, none⟩ bs.length c (bs.map u8V) rfl HFN.out (fun j u hu => Lib.cell?_alloc_some _ (HM.out j u hu)) (u8_one bs) (by unfold maxLen; omega) (by omega) (by simp) ?_; intro v9 w9 hown' hgrow _ hoa; obtain ⟨A9, n9, c9, rfl⟩ := row_shape hown'; have HOWN := Lib.hid hown'; have HGR := Lib.hid hgrow; clear hown' hgrow hoa)
    go_returns
    have hown : w9.ownsRow w.heap.size 5 1 (.slice A9 n9 c9) bs.length (bs.map u8V) := by simpa using HOWN.out
    have f9 : Fr (S1 w.heap.size) (w.alloc (.cells #[] 5)) w9 := Fr.of_grown HGR.out (fun i e => by cases e; rfl)
    have hb9 : Below w.heap.size w w9 := Fr.upB hb1 f9 (fun i e => by have e : i = w.heap.size := e; omega)
    exact ⟨_, _, rfl, ⟨Blk.new w9 _ _, (LRow.bsIn (LRow.of_row hown)).below ((Below.refl _ w9).alloc (Nat.le_refl _) _), fun e => by cases e⟩, hb9.size, hb9.alloc hb9.size _⟩
theorem rrfail (p : Nat) (v : Value) (s : Rd) (w : World) (h : RrAt w p v s) :
    Calls Tryz.prog 176 #[.pointer (some ⟨p, 0, none⟩)] w fun e w' => e = .returned (.tuple #[]) ∧ RrStep w p w' (.slice none 0 0) none := by
  have c0 := h.blk.cell (i := 0) (v := .bool true) rfl
  have c1 := h.blk.cell (i := 1) (v := v) rfl
  have c2 := h.blk.cell (i := 2) (v := .bool s.isNone) rfl
  have f1 := h.blk.frozen 1
  have f2 := h.blk.frozen 2
  have H := Lib.hid h.blk
  clear h
  go_enter Tryz.func176, Tryz.ntmps176
  go_wp2_with (go_at_call 177; refine (rrvalid p w c0).mono ?_; rintro e w' ⟨rfl, rfl⟩)
  go_returns
  exact ⟨rfl, ((Fr.refl (S1 p) w).setCell (.inl (show S1 p p from rfl)) _).setCell (.inl (show S1 p p from rfl)) _, (H.out.set 2 _).set 1 _, LRow.bsIn (LRow.nil _), fun _ => rfl⟩
theorem rrend (p : Nat) (v : Value) (s : Rd) (w : World) (h : RrAt w p v s) :
    Calls Tryz.prog 94 #[.pointer (some ⟨p, 0, none⟩)] w fun e w' => e = .returned (.int .i64 (endE s)) ∧ w = w' := by
  have c0 := h.blk.cell (i := 0) (v := .bool true) rfl
  have c2 := h.blk.cell (i := 2) (v := .bool s.isNone) rfl
  obtain ⟨A, c, hv⟩ := h.vs
  have c1 := h.blk.cell (i := 1) (v := v) rfl
  rw [hv] at c1
  clear h hv
  cases s with
  | none =>
    go_enter Tryz.func94, Tryz.ntmps94
    go_wp2_with (go_at_call 177; refine (rrvalid p w c0).mono ?_; rintro e w' ⟨rfl, rfl⟩)
    go_returns
    exact ⟨rfl, rfl⟩
  | some b =>
    by_cases h0 : b.length = 0
    · have hd : decide (0 < b.length) = false := decide_eq_false (by omega)
      have he : endE (some b) = 0 := by rw [List.eq_nil_of_length_eq_zero h0]; rfl
      rw [he]
      clear h0
      go_enter Tryz.func94, Tryz.ntmps94
      go_wp2_with (go_at_call 177; refine (rrvalid p w c0).mono ?_; rintro e w' ⟨rfl, rfl⟩)
      go_returns
      exact ⟨rfl, rfl⟩
    · have hd : decide (0 < b.length) = true := decide_eq_true (by omega)
      have he : endE (some b) = 10 := endE_other _ (fun e => h0 (by cases e; rfl))
      rw [he]
      clear h0
      go_enter Tryz.func94, Tryz.ntmps94
      go_wp2_with (go_at_call 177; refine (rrvalid p w c0).mono ?_; rintro e w' ⟨rfl, rfl⟩)
      go_returns
      exact ⟨rfl, rfl⟩
end Go.Proofs.YtlfikhblmbidmaaGreatDoor
