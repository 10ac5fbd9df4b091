import Derived.Test.YtlfikhblmbidmaaGreatDoorSltG
import Derived.Test.YtlfikhblmbidmaaGreatDoorMrgB
import Derived.Deep.AppendLies
set_option linter.all false
namespace Go.Proofs.YtlfikhblmbidmaaGreatDoor
open Go.RowKit Go.Maps
attribute [local go_sem] Oper.semAt_some
abbrev SltY := {i : Int // in64 i} × Bool
def unY (y : SltY) : SltX := (y.1.1, y.2)
abbrev sltW (x : SltY) : Array Value := #[.int .i64 x.1.1, .bool x.2]
set_option maxRecDepth 100000 in
set_option maxHeartbeats 2000000 in
theorem from_stopsY (n : Nat) (hn : 1 ≤ n) (p m b1 b2 : Nat) (s : LogSt) (u : Int) (w : World) (hu : 0 ≤ u ∧ u ≤ s.top) (ht : s.top ≤ 4096) (h0' : w.cell? ⟨p, 0, none⟩ = some (.map (some m))) (h3 : w.cell? ⟨p, 3, none⟩ = some (.int .i64 s.top)) (hm : MapIs Tryz.prog 3 w m (encF strV s.L))
  (hb1 : Boxed w b1 3 (.int .i64 u)) (hb2 : Boxed w b2 36 (.pointer (some ⟨p, 0, none⟩))) :
  SeqStopsK Fence.wide n Tryz.prog 214 #[.pointer (some ⟨b1, 0, none⟩), .pointer (some ⟨b2, 0, none⟩)] sltW (KpS p m b1 b2) (fun xs => xs.map unY = fromL s.L u (s.top - u).toNat) (fun pre => ∃ k, pre.map unY = fromL s.L u k ∧ k ≤ (s.top - u).toNat) (s.top - u).toNat w := by
 intro l J Jx W hW hJ hJx hY hj0
 have hro : Fence.wide.round = none := rfl
 have lp : p < w.heap.size := by obtain ⟨o, ho, _⟩ := cells_of_cell h0'; exact (Array.getElem?_eq_some_iff.1 ho).1
 have k0 := bcell hW h0'
 have k3 := bcell hW h3
 have km := hm.of_block (hW.block m hm.lt)
 have kb1 : Boxed W b1 3 (.int .i64 u) := (hW.block b1 hb1.lt).trans hb1
 have kb2 : Boxed W b2 36 (.pointer (some ⟨p, 0, none⟩)) := (hW.block b2 hb2.lt).trans hb2
 have q1 := kb1.cell
 refine callsIn_of_wp Tryz.func214 rfl trivial ?_ hro
 simp only [Tryz.ntmps214, List.size_toArray, List.length_cons, List.length_nil, Nat.reduceAdd, Nat.reduceSub, Array.replicate_succ, Array.replicate_zero, List.push_toArray, List.append_toArray, List.nil_append, List.cons_append]
 have KM := Lib.hid km
 have KB1 := Lib.hid kb1
 have KB2 := Lib.hid kb2
 have K0 := Lib.hid k0
 have K3 := Lib.hid k3
 clear km kb1 kb2 h0' h3 hm hb1 hb2 k0 k3
 gi_wp2
 gi_loopw [4] (fun c wr => ∃ (k : Nat) (pre : List SltY), k ≤ (s.top - u).toNat ∧ c = .int .i64 (u + (k : Int)) ∧ pre.map unY = fromL s.L u k ∧ J pre wr ∧ KpS p m b1 b2 W wr) (fun c _ => (s.top - intOf c).toNat)
 case atStart => exact ⟨0, [], Nat.zero_le _, by simp, rfl, hj0, KpS.refl _ _ _ _ _⟩
 case round =>
  obtain ⟨k, pre, hk, rfl, hpre, hj, hkp⟩ := hrel
  have x0 := hkp.c0.trans K0.out
  have x3 := hkp.c3.trans K3.out
  have y2 := (hkp.h2.trans KB2.out : Boxed wr b2 36 (.pointer (some ⟨p, 0, none⟩)))
  have z2 : wr.cell? ⟨b2, 0, none⟩ = some (.pointer (some ⟨p, 0, none⟩)) := Boxed.cell y2
  have HMW := Lib.hid (KM.out.of_block hkp.map)
  have HKP := Lib.hid hkp
  clear y2 hkp q1
  by_cases hlt : u + (k : Int) < s.top
  ·have HKV : Hid (((get (u + (k : Int)) (encF strV s.L)).getD (.string ⟨#[]⟩)) = .string ((get (u + (k : Int)) s.L).getD ⟨#[]⟩) ∧ (get (u + (k : Int)) (encF strV s.L)).isSome = (get (u + (k : Int)) s.L).isSome) := by
    rw [get_encF]
    cases get (u + (k : Int)) s.L <;> exact ⟨rfl, rfl⟩
   have hin : in64 (u + (k : Int)) := ⟨by omega, by omega⟩
   have hplen : pre.length = k := by have := congrArg List.length hpre; simpa [fromL_length] using this
   have hy' := hY pre (⟨u + (k : Int), hin⟩, (get (u + (k : Int)) s.L).isSome) wr hj (by omega)
   have hpre2 : Hid ((pre ++ [((⟨u + (k : Int), hin⟩, (get (u + (k : Int)) s.L).isSome) : SltY)]).map unY = fromL s.L u (k + 1)) := by
    show _ = _
    rw [List.map_append, hpre, fromL_succ]
    rfl
   obtain ⟨is, his⟩ : ∃ is, (get (u + (k : Int)) s.L).isSome = is := ⟨_, rfl⟩
   rw [his] at hy' HKV hpre2
   obtain ⟨fn, tmps, assign, body, hy, hR⟩ := hy'
   try dsimp only at hy
   clear his hpre hplen
   gi_wp2_with (gi_at_lookup; refine wpListIn_look _ rfl _ _ 167 rfl 3 9 Tryz.underlying3 Tryz.underlying167 (.string ⟨#[]⟩) (zeroStr wr) m _ rfl HMW.out (u + (k : Int)) rfl (wf64 hin) ?_; rw [HKV.out.1, HKV.out.2])
   refine hR.mono ?_
   rintro e W3 (⟨rfl, hj3, hk3⟩ | ⟨rfl, hjx3⟩)
   ·have HJ := Lib.hid hj3
    have HK3 := Lib.hid (HKP.out.trans hk3)
    clear hj3 hk3
    gi_wp2
    refine ⟨⟨k + 1, _, by omega, ?_, hpre2.out, HJ.out, HK3.out⟩, by simp [intOf]; omega⟩
    rw [Int.add_assoc]; push_cast; rfl
   ·have HJ := Lib.hid hjx3
    clear hjx3
    gi_wp2
    refine bodyPost_ret (results_none rfl _ _ _) rfl ?_
    exact ⟨⟨_, rfl⟩, .inr ⟨_, ⟨k + 1, hpre2.out, by omega⟩, HJ.out⟩⟩
  ·have hkk : k = (s.top - u).toNat := by omega
   gi_wp2
   go_end0
   rw [hkk] at hpre
   exact ⟨⟨_, rfl⟩, .inl ⟨_, hpre, hj⟩⟩
def valL (L : VL) (x : SltX) : ByteArray := (get x.1 L).getD ⟨#[]⟩
theorem lpre_from (L : VL) : ∀ (k n : Nat) (u : Int), (∀ x ∈ fromL L u k, x.2 = true) → k ≤ n → lpre L u n = (fromL L u k).map (valL L) ++ lpre L (u + (k : Int)) (n - k)
 | 0, n, u, _, _ => by simp [fromL]
 | k + 1, 0, u, _, h => by omega
 | k + 1, n + 1, u, h, hk => by
  rw [fromL_cons] at h ⊢
  have h0 : (get u L).isSome = true := h _ (List.mem_cons_self ..)
  obtain ⟨v, hv⟩ := Option.isSome_iff_exists.1 h0
  have ih := lpre_from L k n (u + 1) (fun x hx => h x (List.mem_cons_of_mem _ hx)) (by omega)
  rw [lpre, hv]
  simp only
  rw [ih, List.map_cons, List.cons_append, show u + 1 + (k : Int) = u + ((k + 1 : Nat) : Int) by omega, show n + 1 - (k + 1) = n - k by omega]
  congr 1
  show v = (get u L).getD ⟨#[]⟩
  rw [hv]
  rfl
theorem pre_done {L : VL} {u : Int} {n : Nat} (h : ∀ x ∈ fromL L u n, x.2 = true) : (fromL L u n).map (valL L) = lpre L u n := by
 rw [lpre_from L n n u h (Nat.le_refl _), Nat.sub_self, lpre, List.append_nil]
theorem pre_stop {L : VL} {u : Int} {k n : Nat} {pre : List SltX} {x : SltX} (he : pre ++ [x] = fromL L u k) (hk : k ≤ n) (hp : ∀ y ∈ pre, y.2 = true) (hx : x.2 = false) : pre.map (valL L) = lpre L u n := by
 cases k with
 | zero => simp [fromL] at he
 | succ k =>
  rw [fromL_succ] at he
  obtain ⟨rfl, hx2⟩ := List.append_inj' he rfl
  simp only [List.cons.injEq, and_true] at hx2
  subst hx2
  have hx3 : (get (u + (k : Int)) L).isSome = false := hx
  rw [lpre_from L k n u hp (by omega)]
  obtain ⟨j, hj⟩ : ∃ j, n - k = j + 1 := ⟨n - k - 1, by omega⟩
  have hn : get (u + (k : Int)) L = none := by simpa using hx3
  rw [hj, lpre, hn]
  simp
structure PfI (w : World) (p : Nat) (L : VL) (pre : List SltY) (W : World) : Prop where
 all : ∀ x ∈ pre.map unY, x.2 = true
 bx : Boxed W w.heap.size 36 (.pointer (some ⟨p, 0, none⟩))
 row : ∃ v, Boxed W (w.heap.size + 1) 157 v ∧ W.ownsRow (w.heap.size + 4) 9 1 v ((pre.map unY).map (valL L)).length (((pre.map unY).map (valL L)).map .string)
 bel : Below w.heap.size w W
 sz : w.heap.size + 4 ≤ W.heap.size
theorem pf_own {w W0 : World} {p : Nat} {L : VL} {pre : List SltY} {A C : World} {row : Option Nat} (hS : W0.heap.size = w.heap.size + 4) (hs : PfI w p L pre A) (hg : A.grownBy C row) (hr : ∀ r, row = some r → W0.heap.size ≤ r ∧ ∃ o, A.heap[r]? = some o ∧ o.isCells = false) : PfI w p L pre C := by
 obtain ⟨v, h1, h2⟩ := hs.row
 have hr1 := (Own.from (holdsRow_own (w.heap.size + 4) (w.heap.size + 1) 157 9 1 (fun pre : List SltY => ((pre.map unY).map (valL L)).length) (fun pre : List SltY => ((pre.map unY).map (valL L)).map Value.string) (fun _ _ => True)) W0.heap.size) pre A C row ⟨v, h1, h2, trivial⟩ hg hr
 obtain ⟨v, h1, h2, _⟩ := hr1
 have hb : Below w.heap.size w C := (ownFrom_below (Nat.le_refl _) (show w.heap.size ≤ W0.heap.size by omega)) pre A C row hs.bel hg hr
 exact ⟨hs.all, boxed_own _ _ (fun _ => _) pre A C row hs.bx hg (fun r e => (hr r e).2), ⟨v, h1, h2⟩, hb, Nat.le_trans hs.sz hg.size⟩
theorem lrun {w : World} {m : Nat} {L : VL} (h : MapIs Tryz.prog 3 w m (encF strV L)) (k : Int) (hk : in64 k) :
  (Instr.lookup 167 (.map (some m)) (.int .i64 k) false).run Tryz.prog w = .ok (.string ((get k L).getD ⟨#[]⟩)) w := by
 obtain ⟨v, ps, hrun, hv⟩ := World.ownsMap.lookup h (int_keyed Tryz.underlying3) Tryz.underlying167 (zeroStr w) (zd := .held (.string ⟨#[]⟩)) (zp := []) rfl (keyOf_int_mk Tryz.underlying3 (wf64 hk))
 have := held_eq hv (dat_atKey k (.string ⟨#[]⟩) (encF strV L))
 subst this
 rw [hrun, get_encF]
 cases get k L <;> rfl
theorem pfS_fr {S : Nat → Prop} {A B : World} {b p m : Nat} {s : LogSt} {i : Int} {u : ByteArray} (hu : (get i s.L).getD ⟨#[]⟩ = u) (hl : LogAt A p m s) (hx : A.cell? ⟨b, 0, none⟩ = some (.pointer (some ⟨p, 0, none⟩))) (hin : in64 i) (f : Fr S A B) (h1 : ¬ S b) (h2 : ¬ S p) (h3 : ¬ S m) :
  B.cell? ⟨b, 0, none⟩ = some (.pointer (some ⟨p, 0, none⟩)) ∧ B.cell? ⟨p, 0, none⟩ = some (.map (some m)) ∧ (Instr.lookup 167 (.map (some m)) (.int .i64 i) false).run Tryz.prog B = .ok (.string u) B := by
 have hl2 := hl.fr f (fun j e => by rcases e with rfl | rfl; exact h2; exact h3)
 have := lrun hl2.map i hin
 rw [hu] at this
 exact ⟨f.cell h1 hx, hl2.c0, this⟩
set_option maxRecDepth 100000 in
set_option maxHeartbeats 2000000 in
theorem lprefix_any {w : World} {p m : Nat} {s : LogSt} (h : LogAt w p m s) (hg : LGood s) :
    Calls Tryz.prog 114 #[.pointer (some ⟨p, 0, none⟩)] w fun e w' => ∃ vo, e = .returned vo ∧ w'.ownsRow w.heap.size 9 1 vo (lprefix s).length ((lprefix s).map .string) ∧ Below w.heap.size w w' := by
  refine (callsIn_wide (n := 6)).1 ?_
  have hro : Fence.wide.round = none := rfl
  obtain ⟨i0, hi, hz0, hz1, hz2⟩ := info_parts info_str
  have HI := Lib.hid hi
  have HZ0 := Lib.hid hz0
  have HZ1 := Lib.hid hz1
  have HZ2 := Lib.hid hz2
  clear hi hz0 hz1 hz2
  have hlt := h.lt
  have hu : 0 ≤ s.base ∧ s.base ≤ s.top := ⟨hg.b0, by have := hg.bu; have := hg.ut; omega⟩
  have ht := hg.t1
  have H := Lib.hid h
  have hb1 : Below w.heap.size w (w.alloc (.cells #[.pointer (some ⟨p, 0, none⟩)] 36)) := (Below.refl _ w).alloc (Nat.le_refl _) _
  have hb2 : Below w.heap.size w ((w.alloc (.cells #[.pointer (some ⟨p, 0, none⟩)] 36)).alloc (.cells #[.slice none 0 0] 157)) := hb1.alloc (by simp) _
  have c0 := (h.below hb1).c0
  have d1 := (h.below hb2).c1
  have dx := ((Boxed.new w 36 (.pointer (some ⟨p, 0, none⟩))).alloc (.cells #[.slice none 0 0] 157)).cell
  clear h
  refine callsIn_of_wp_marks Tryz.func114 rfl trivial ?_ hro
  simp only [Tryz.ntmps114, List.size_toArray, List.length_cons, List.length_nil, Nat.reduceAdd, Nat.reduceSub, Array.replicate_succ, Array.replicate_zero, List.push_toArray, List.append_toArray, List.nil_append, List.cons_append]
  gi_wp2_with (first
    | (refine ⟨trivial, ?_⟩; gi_at_call 125; refine (callsIn_wide.2 (lmade_yes p m _ c0)).mono ?_; rintro e w' ⟨rfl, rfl⟩))
  refine wpIn_onlyN (wpIn_wide_drew (S := (fun W => W.cell? ⟨w.heap.size, 0, none⟩ = some (.pointer (some ⟨p, 0, none⟩)) ∧ W.cell? ⟨p, 1, none⟩ = some (.int .i64 s.base))) (by kernel_rfl) (by kernel_rfl) onlyN_lets ?_ (fun hHeld => ?_))
  · exact ⟨dx, d1⟩
  try dsimp only at hHeld
  refine hY 0 (some 9) hHeld ?_
  refine hY 1 (some 10) hHeld ?_
  refine hY 2 (some 11) hHeld ?_
  refine hY 3 (some 12) hHeld ?_
  refine hY 4 (some 13) hHeld ?_
  refine wpAnyH_ready (rs := [5]) (by kernel_rfl) (by simp) ?_
  refine (AllReadyH.cons rfl (fun K' hK' => ?_) AllReadyH.nil)
  go_simp
  (refine (from_any p s.base _).mono ?_; rintro e w3 ⟨rfl, rfl⟩)
  go_wp2_with fail
  refine hK'.out _ _ ?_ (fun hHeld => ?_)
  · exact ⟨Lib.cell?_alloc_some _ (Lib.cell?_alloc_some _ dx), Lib.cell?_alloc_some _ (Lib.cell?_alloc_some _ d1)⟩
  clear hK' K'
  try dsimp only at hHeld
  try simp only [Act.put, List.setIfInBounds_toArray, List.set_cons_zero, List.set_cons_succ]
  refine wpAnyH_done (by kernel_rfl) ?_ _
  refine onlyN_n ?_
  gi_wp2
  have hB2 : Below w.heap.size w ((((w.alloc (Obj.cells #[Value.pointer (some { block := p, off := 0 })] 36)).alloc (Obj.cells #[Value.slice none 0 0] 157)).alloc (Obj.cells #[Value.pointer (some { block := p, off := 0 })] 36)).alloc (Obj.cells #[Value.int IntKind.i64 s.base] 3)).drew := ((hb2.alloc (by simp; omega) _).alloc (by simp; omega) _).drew
  have bl : Boxed ((((w.alloc (Obj.cells #[Value.pointer (some { block := p, off := 0 })] 36)).alloc (Obj.cells #[Value.slice none 0 0] 157)).alloc (Obj.cells #[Value.pointer (some { block := p, off := 0 })] 36)).alloc (Obj.cells #[Value.int IntKind.i64 s.base] 3)).drew w.heap.size 36 (.pointer (some ⟨p, 0, none⟩)) := (((Boxed.new w _ _).alloc _).alloc _).alloc _
  have bO : Boxed ((((w.alloc (Obj.cells #[Value.pointer (some { block := p, off := 0 })] 36)).alloc (Obj.cells #[Value.slice none 0 0] 157)).alloc (Obj.cells #[Value.pointer (some { block := p, off := 0 })] 36)).alloc (Obj.cells #[Value.int IntKind.i64 s.base] 3)).drew (w.heap.size + 1) 157 (.slice none 0 0) := by
    have := ((Boxed.new (w.alloc (Obj.cells #[Value.pointer (some { block := p, off := 0 })] 36)) 157 (.slice none 0 0)).alloc (Obj.cells #[Value.pointer (some { block := p, off := 0 })] 36)).alloc (Obj.cells #[Value.int IntKind.i64 s.base] 3)
    rwa [World.size_alloc] at this
  have b1 : Boxed ((((w.alloc (Obj.cells #[Value.pointer (some { block := p, off := 0 })] 36)).alloc (Obj.cells #[Value.slice none 0 0] 157)).alloc (Obj.cells #[Value.pointer (some { block := p, off := 0 })] 36)).alloc (Obj.cells #[Value.int IntKind.i64 s.base] 3)).drew (w.heap.size + 1 + 1) 36 (.pointer (some ⟨p, 0, none⟩)) := by
    have := (Boxed.new ((w.alloc (Obj.cells #[Value.pointer (some { block := p, off := 0 })] 36)).alloc (Obj.cells #[Value.slice none 0 0] 157)) 36 (.pointer (some ⟨p, 0, none⟩))).alloc (Obj.cells #[Value.int IntKind.i64 s.base] 3)
    rwa [World.size_alloc, World.size_alloc] at this
  have b2 : Boxed ((((w.alloc (Obj.cells #[Value.pointer (some { block := p, off := 0 })] 36)).alloc (Obj.cells #[Value.slice none 0 0] 157)).alloc (Obj.cells #[Value.pointer (some { block := p, off := 0 })] 36)).alloc (Obj.cells #[Value.int IntKind.i64 s.base] 3)).drew (w.heap.size + 1 + 1 + 1) 3 (.int .i64 s.base) := by
    have := (Boxed.new (((w.alloc (Obj.cells #[Value.pointer (some { block := p, off := 0 })] 36)).alloc (Obj.cells #[Value.slice none 0 0] 157)).alloc (Obj.cells #[Value.pointer (some { block := p, off := 0 })] 36)) 3 (.int .i64 s.base))
    rwa [World.size_alloc, World.size_alloc, World.size_alloc] at this
  have hS2 : ((((w.alloc (Obj.cells #[Value.pointer (some { block := p, off := 0 })] 36)).alloc (Obj.cells #[Value.slice none 0 0] 157)).alloc (Obj.cells #[Value.pointer (some { block := p, off := 0 })] 36)).alloc (Obj.cells #[Value.int IntKind.i64 s.base] 3)).drew.heap.size = w.heap.size + 4 := by simp
  have HL2 := Lib.hid (H.out.below hB2)
  clear d1 c0 hb1 hb2 dx hHeld
  generalize ((((w.alloc (Obj.cells #[Value.pointer (some { block := p, off := 0 })] 36)).alloc (Obj.cells #[Value.slice none 0 0] 157)).alloc (Obj.cells #[Value.pointer (some { block := p, off := 0 })] 36)).alloc (Obj.cells #[Value.int IntKind.i64 s.base] 3)).drew = W0 at *
  refine wpIn_rangeFunc_ownG hro (by omega) (gf := 214) (lb := #[.pointer (some ⟨w.heap.size + 1 + 1 + 1, 0, none⟩), .pointer (some ⟨w.heap.size + 1 + 1, 0, none⟩)]) rfl trivial (enters_of Tryz.func214 (by kernel_rfl) rfl)
    (from_stopsY (6 - 1) (by omega) p m (w.heap.size + 1 + 1 + 1) (w.heap.size + 1 + 1) s s.base W0 hu ht HL2.out.c0 HL2.out.c3 HL2.out.map b2 b1) (fun h k => h.trans k) (fun W l o o' hl ho hc hw => by
      have lw := (Array.getElem?_eq_some_iff.1 ho).1
      exact KpS.of_fr (S := fun i => i = l) (Fr.of_grown (grownBy_putObj' W l o') (fun i e => by cases e; rfl)) (by omega) (by omega) (by omega) (by omega) (by omega) (by omega) (by omega) (by omega)) (Below.refl _ _) (fun _ => rfl)
    (fun pre W => PfI w p s.L pre W) (fun c pre W => c = .exit 0 ∧ ∃ pre' x, pre = pre' ++ [x] ∧ x.2 = false ∧ PfI w p s.L pre' W)
    (fun pre A C row hs hg hr => pf_own hS2 hs hg hr)
    (fun c pre A C row hs hg hr => by
      obtain ⟨hc, pre', x, h1, h2, h3⟩ := hs
      exact ⟨hc, pre', x, h1, h2, pf_own hS2 h3 hg hr⟩)
    ⟨fun x hx => by (cases hx), bl, ⟨_, bO, World.ownsRow_nil _ _ _ _⟩, hB2, by omega⟩
    (fun x => { tmps := #[.pointer (some ⟨p, 0, none⟩), .pointer (some ⟨w.heap.size, 0, none⟩), .slice none 0 0, .pointer (some ⟨w.heap.size + 1, 0, none⟩), .int .i64 x.1.1, .bool x.2,
          .pointer (some ⟨p, 0, none⟩), .bool true, .bool false, .pointer (some ⟨p, 0, none⟩), .pointer (some ⟨p, 0, none⟩), .pointer (some ⟨p, 0, none⟩), .pointer (some ⟨p, 1, none⟩),
          .int .i64 s.base, .func (.func 214) #[] #[.pointer (some ⟨w.heap.size + 1 + 1 + 1, 0, none⟩), .pointer (some ⟨w.heap.size + 1 + 1, 0, none⟩)],
          .int .i64 x.1.1, .bool x.2, undef, undef, undef, undef, undef, undef, undef, undef, undef, undef, undef, undef], defers := [] }) ?assign ?body ?done ?stop
  case assign =>
    intro l x W K hK
    gi_wp2
    exact hK
  case body =>
    rintro l pre ⟨⟨i, hin⟩, is⟩ W hI hlt
    obtain ⟨v, h1, h2⟩ := hI.row
    have hrl := fun j (e : v.ownBlock = some j) => row_lo h2 e
    have HLW := Lib.hid (H.out.below hI.bel)
    have HI0 := Lib.hid hI
    have hsz := hI.sz
    cases is
    · clear hI h1 h2
      gi_wp2
      exact ⟨KeepsFrom.refl _ _, rfl, pre, (⟨i, hin⟩, false), rfl, rfl, HI0.out⟩
    · obtain ⟨u, hu2⟩ : ∃ u, (get i s.L).getD ⟨#[]⟩ = u := ⟨_, rfl⟩
      generalize hX : (pre.map unY).map (valL s.L) = X at h2
      have HX2 : Hid (((pre ++ [((⟨i, hin⟩, true) : SltY)]).map unY).map (valL s.L) = X ++ [u]) := by
        show _ = _
        rw [List.map_append, List.map_append, hX, ← hu2]
        rfl
      have hcX := hI.bx.cell
      have hcP := HLW.out.c0
      have hcV := h1.cell
      have hcV9 : (W.alloc (.cells #[.string u] 9)).cell? ⟨w.heap.size + 1, 0, none⟩ = some v := Lib.cell?_alloc_some _ hcV
      have hrun := lrun HLW.out.map i hin
      rw [hu2] at hrun
      have hrunD := (pfS_fr hu2 HLW.out hcX hin (Fr.of_below (Below.refl _ W).drew : Fr S0 _ _) (fun h => h) (fun h => h) (fun h => h)).2.2
      have ROW9 := Lib.hid ((h2.alloc (.cells #[.string u] 9)).drew)
      have HSZ9 : Hid ((W.alloc (.cells #[.string u] 9)).drew.heap.size = W.heap.size + 1) := by show _ = _; simp
      have hb9 : Below W.heap.size W (W.alloc (.cells #[.string u] 9)).drew := ((Below.refl _ W).alloc (Nat.le_refl _) _).drew
      have HK9 := Lib.hid (pfS_fr hu2 HLW.out hcX hin (Fr.of_below hb9 : Fr S0 _ _) (fun h => h) (fun h => h) (fun h => h))
      have hmlen : X.length ≤ 4096 := by rw [← hX, List.length_map, List.length_map]; omega
      have H1 := Lib.hid h1
      have H2 := Lib.hid h2
      have HU2 := Lib.hid hu2
      have HB9 := Lib.hid hb9
      clear hI h1 h2 hu2 hb9 hX
      gi_wp2
      refine wpIn_round_drew (S := (fun W => W.cell? ⟨w.heap.size, 0, none⟩ = some (.pointer (some ⟨p, 0, none⟩)) ∧ W.cell? ⟨p, 0, none⟩ = some (.map (some m)) ∧ (Instr.lookup 167 (.map (some m)) (.int .i64 i) false).run Tryz.prog W = .ok (.string u) W)) (by kernel_rfl) (by kernel_rfl) (fun h => by obtain ⟨_, _, h⟩ := h; exact h.elim) ?_ (fun hHeld => ?_)
      · exact ⟨hcX, hcP, hrunD⟩
      try dsimp only at hHeld
      refine hY 1 (some 20) hHeld ?_
      refine hY 2 (some 21) hHeld ?_
      refine hY 3 (some 22) hHeld ?_
      refine hY 4 (some 23) hHeld ?_
      refine hY 5 (some 24) hHeld ?_
      refine hY 6 (some 25) hHeld ?_
      refine wpAnyH_ready (rs := [0, 7]) (by kernel_rfl) (by simp) ?_
      refine (AllReadyH.cons rfl (fun K' hK' => ?_) (AllReadyH.cons rfl (fun K' hK' => ?_) AllReadyH.nil))
      · go_simp
        refine hK'.out _ _ ?_ (fun hHeld => ?_)
        · first | exact hHeld | exact HK9.out | exact HKa.out | exact HKb.out
        clear hK' K'
        try dsimp only at hHeld
        try simp only [Act.put, List.setIfInBounds_toArray, List.set_cons_zero, List.set_cons_succ]
        refine wpAnyH_ready (rs := [7]) (by kernel_rfl) (by simp) ?_
        refine (AllReadyH.cons rfl (fun K' hK' => ?_) AllReadyH.nil)
        go_simp
        refine hK'.out _ _ ?_ (fun hHeld => ?_)
        · first | exact hHeld | exact HK9.out | exact HKa.out | exact HKb.out
        clear hK' K'
        try dsimp only at hHeld
        try simp only [Act.put, List.setIfInBounds_toArray, List.set_cons_zero, List.set_cons_succ]
        refine wpAnyH_ready (rs := [8]) (by kernel_rfl) (by simp) ?_
        refine (AllReadyH.cons rfl (fun K' hK' => ?_) AllReadyH.nil)
        (refine step_append_lies _ rfl _ _ 157 rfl (w.heap.size + 4) 9 i0 (.string ⟨#[]⟩) 1 16 Tryz.underlying157 HI.out HZ0.out HZ1.out HZ2.out rfl (by decide) v _ _ rfl ROW9.out ⟨W.heap.size, 0, none⟩ 1 1 [.string u] rfl rfl (cell_one_new _ _ _) (by simp [Value.oneCell']) (by decide) (by unfold maxLen; omega) (by omega) (by rw [HSZ9.out]; omega) _ rfl ?_; intro g2 cap2 wa hra hga hoa hla; change K' (Act.put _ (some 27) _) _; have HL := Lib.hid (leaf_box (tmp := .cells #[.string u] 9) (by decide) H1.out H2.out (by omega) hra ⟨hga.os, hga.tape, hga.output, hga.size, hga.block⟩); have HKa := Lib.hid (pfS_fr HU2.out (HLW.out.below HB9.out) HK9.out.1 hin (Fr.of_grown (S := fun j => v.ownBlock = some j) hga (fun i e => e)) (fun h => by have := hrl _ h; omega) (fun h => by have := hrl _ h; omega) (fun h => by have := hrl _ h; omega)); have HKb := Lib.hid (pfS_fr HU2.out HLW.out hcX hin HL.out.2.2.1 (fun h => by rcases h with h | h; omega; (have := hrl _ h; omega)) (fun h => by rcases h with h | h; omega; (have := hrl _ h; omega)) (fun h => by rcases h with h | h; omega; (have := hrl _ h; omega))); have q1 := HL.out.1.cell; have q2 := HL.out.1.frozen; clear hra hga)
        refine hK'.out _ _ ?_ (fun hHeld => ?_)
        · first | exact hHeld | exact HK9.out | exact HKa.out | exact HKb.out
        clear hK' K'
        try dsimp only at hHeld
        try simp only [Act.put, List.setIfInBounds_toArray, List.set_cons_zero, List.set_cons_succ]
        refine wpAnyH_ready (rs := [9]) (by kernel_rfl) (by simp) ?_
        refine (AllReadyH.cons rfl (fun K' hK' => ?_) AllReadyH.nil)
        go_simp
        refine hK'.out _ _ ?_ (fun hHeld => ?_)
        · first | exact hHeld | exact HK9.out | exact HKa.out | exact HKb.out
        clear hK' K'
        try dsimp only at hHeld
        try simp only [Act.put, List.setIfInBounds_toArray, List.set_cons_zero, List.set_cons_succ]
        refine wpAnyH_done (by kernel_rfl) ?_ _
        (gi_wp2; obtain ⟨_, k1, kf, k3, k4⟩ := HL.out; refine ⟨k1 _, KpS.of_fr kf (fun h => by rcases h with h | h; omega; (have := hrl _ h; omega)) (fun h => by rcases h with h | h; omega; (have := hrl _ h; omega)) (fun h => by rcases h with h | h; omega; (have := hrl _ h; omega)) (fun h => by rcases h with h | h; omega; (have := hrl _ h; omega)) (by omega) (by omega) (by omega) (by omega), ⟨fun x hx => ?_, ?_, ⟨_, k3, ?_⟩, ?_, Nat.le_trans hsz kf.size⟩⟩; (rw [List.map_append] at hx; rcases List.mem_append.1 hx with hx | hx; exact HI0.out.all x hx; (rw [List.mem_singleton.1 hx]; rfl)); exact (kf.block _ (by omega) (fun h => by rcases h with h | h; omega; (have := hrl _ h; omega))).trans HI0.out.bx; (rw [HX2.out, List.length_append, List.map_append]; exact k4); exact HI0.out.bel.trans (kf.below HI0.out.bel.size (fun j h => by rcases h with h | h; omega; (have := hrl _ h; omega))))
      · go_simp
        refine hK'.out _ _ ?_ (fun hHeld => ?_)
        · first | exact hHeld | exact HK9.out | exact HKa.out | exact HKb.out
        clear hK' K'
        try dsimp only at hHeld
        try simp only [Act.put, List.setIfInBounds_toArray, List.set_cons_zero, List.set_cons_succ]
        refine wpAnyH_ready (rs := [0]) (by kernel_rfl) (by simp) ?_
        refine (AllReadyH.cons rfl (fun K' hK' => ?_) AllReadyH.nil)
        go_simp
        refine hK'.out _ _ ?_ (fun hHeld => ?_)
        · first | exact hHeld | exact HK9.out | exact HKa.out | exact HKb.out
        clear hK' K'
        try dsimp only at hHeld
        try simp only [Act.put, List.setIfInBounds_toArray, List.set_cons_zero, List.set_cons_succ]
        refine wpAnyH_ready (rs := [8]) (by kernel_rfl) (by simp) ?_
        refine (AllReadyH.cons rfl (fun K' hK' => ?_) AllReadyH.nil)
        (refine step_append_lies _ rfl _ _ 157 rfl (w.heap.size + 4) 9 i0 (.string ⟨#[]⟩) 1 16 Tryz.underlying157 HI.out HZ0.out HZ1.out HZ2.out rfl (by decide) v _ _ rfl ROW9.out ⟨W.heap.size, 0, none⟩ 1 1 [.string u] rfl rfl (cell_one_new _ _ _) (by simp [Value.oneCell']) (by decide) (by unfold maxLen; omega) (by omega) (by rw [HSZ9.out]; omega) _ rfl ?_; intro g2 cap2 wa hra hga hoa hla; change K' (Act.put _ (some 27) _) _; have HL := Lib.hid (leaf_box (tmp := .cells #[.string u] 9) (by decide) H1.out H2.out (by omega) hra ⟨hga.os, hga.tape, hga.output, hga.size, hga.block⟩); have HKa := Lib.hid (pfS_fr HU2.out (HLW.out.below HB9.out) HK9.out.1 hin (Fr.of_grown (S := fun j => v.ownBlock = some j) hga (fun i e => e)) (fun h => by have := hrl _ h; omega) (fun h => by have := hrl _ h; omega) (fun h => by have := hrl _ h; omega)); have HKb := Lib.hid (pfS_fr HU2.out HLW.out hcX hin HL.out.2.2.1 (fun h => by rcases h with h | h; omega; (have := hrl _ h; omega)) (fun h => by rcases h with h | h; omega; (have := hrl _ h; omega)) (fun h => by rcases h with h | h; omega; (have := hrl _ h; omega))); have q1 := HL.out.1.cell; have q2 := HL.out.1.frozen; clear hra hga)
        refine hK'.out _ _ ?_ (fun hHeld => ?_)
        · first | exact hHeld | exact HK9.out | exact HKa.out | exact HKb.out
        clear hK' K'
        try dsimp only at hHeld
        try simp only [Act.put, List.setIfInBounds_toArray, List.set_cons_zero, List.set_cons_succ]
        refine wpAnyH_ready (rs := [9]) (by kernel_rfl) (by simp) ?_
        refine (AllReadyH.cons rfl (fun K' hK' => ?_) AllReadyH.nil)
        go_simp
        refine hK'.out _ _ ?_ (fun hHeld => ?_)
        · first | exact hHeld | exact HK9.out | exact HKa.out | exact HKb.out
        clear hK' K'
        try dsimp only at hHeld
        try simp only [Act.put, List.setIfInBounds_toArray, List.set_cons_zero, List.set_cons_succ]
        refine wpAnyH_done (by kernel_rfl) ?_ _
        (gi_wp2; obtain ⟨_, k1, kf, k3, k4⟩ := HL.out; refine ⟨k1 _, KpS.of_fr kf (fun h => by rcases h with h | h; omega; (have := hrl _ h; omega)) (fun h => by rcases h with h | h; omega; (have := hrl _ h; omega)) (fun h => by rcases h with h | h; omega; (have := hrl _ h; omega)) (fun h => by rcases h with h | h; omega; (have := hrl _ h; omega)) (by omega) (by omega) (by omega) (by omega), ⟨fun x hx => ?_, ?_, ⟨_, k3, ?_⟩, ?_, Nat.le_trans hsz kf.size⟩⟩; (rw [List.map_append] at hx; rcases List.mem_append.1 hx with hx | hx; exact HI0.out.all x hx; (rw [List.mem_singleton.1 hx]; rfl)); exact (kf.block _ (by omega) (fun h => by rcases h with h | h; omega; (have := hrl _ h; omega))).trans HI0.out.bx; (rw [HX2.out, List.length_append, List.map_append]; exact k4); exact HI0.out.bel.trans (kf.below HI0.out.bel.size (fun j h => by rcases h with h | h; omega; (have := hrl _ h; omega))))
  case done =>
    rintro D ys W hD hys hI hK
    obtain ⟨v, h1, h2⟩ := hI.row
    have hall := hI.all
    rw [hys] at h2 hall
    rw [pre_done hall] at h2
    obtain ⟨a9, c9, rfl⟩ := row_len h2
    have hc1 := h1.cell
    have hbel := hI.bel
    clear hI
    gi_wp2
    refine ⟨by simp, .inl ⟨_, _, rfl, run_takeDeferred hK, ?_⟩⟩
    refine ⟨_, by simp [results, Tryz.results114, go_sem], _, rfl, World.ownsRow.mono (ownsRow_putObj h2 (.deferred none) hK rfl) (by omega), hbel.trans (belowK_b (w := W0) (by omega) W D _ _ hD hK rfl rfl)⟩
  case stop =>
    rintro D c pre W hD ⟨k, hk1, hk2⟩ ⟨rfl, pre', x, rfl, hx, hI⟩ hK
    obtain ⟨v, h1, h2⟩ := hI.row
    rw [List.map_append] at hk1
    rw [pre_stop (x := unY x) hk1 hk2 hI.all hx] at h2
    obtain ⟨a9, c9, rfl⟩ := row_len h2
    have hc1 := h1.cell
    have hbel := hI.bel
    clear hI
    gi_wp2
    refine ⟨by simp, .inl ⟨_, _, rfl, run_takeDeferred hK, ?_⟩⟩
    refine ⟨_, by simp [results, Tryz.results114, go_sem], _, rfl, World.ownsRow.mono (ownsRow_putObj h2 (.deferred none) hK rfl) (by omega), hbel.trans (belowK_b (w := W0) (by omega) W D _ _ hD hK rfl rfl)⟩
end Go.Proofs.YtlfikhblmbidmaaGreatDoor