/- Laid together by gen/merge.py: WireA WireB WireC WireD StbA StbB StbC StbD StbE StbF. -/
import Derived.Test.YtlfikhblmbidmaaGreatDoorMrgA
import Derived.Shelf.RegionOpen
import Derived.OwnWalkIn
import Derived.TacticsInMore
import Derived.LoopNIn
import Derived.LoopIn
import Derived.Deep.AppendLies
import Derived.Maps.OwnIn
import Derived.Maps.AppendAt
import Derived.RangeFuncBox
import Derived.Handy
import Derived.Deep.OwnRows
import Derived.Lib.AppendStr
import Derived.Deep.Onto
set_option linter.all false
namespace Go.Proofs.YtlfikhblmbidmaaGreatDoor
open Go.RowKit
attribute [local go_sem] Oper.semAt_some
def BoxSt (B : Nat) (X Y : World) : Prop := ∃ v, Y = X.setCell ⟨B, 0, none⟩ v
def BoxKp (B : Nat) (X Y : World) : Prop := Y.heap[B]? = X.heap[B]?
set_option maxRecDepth 100000 in
set_option maxHeartbeats 2000000 in
theorem digits1_in (F : Fence) (n : Nat) (hf : F.fn 223) (hro : F.round = none) (hn : 1 ≤ n) (l B N : Nat) (m : Nat) (hm : m < 18446744073709551616) (hN : (uintB m).length ≤ N) (J : List UInt8 → World → Prop)
  (hJs : ∀ pre X Y, BoxSt B X Y → J pre X → J pre Y)
  (hY : ∀ pre x W1, J pre W1 → pre.length < N → YieldAt F (n - 1) Tryz.prog l #[u8V x] W1 fun e W' => e = .returned (.bool true) ∧ J (pre ++ [x]) W' ∧ BoxKp B W1 W')
  (W : World) (hB : Boxed W B 138 (.int .u64 (m : Int))) (h0 : J [] W) :
  CallsIn F n Tryz.prog 223 #[.func (.yield l) #[] #[], .pointer (some ⟨B, 0, none⟩)] W fun e W' => (∃ v, e = .returned v) ∧ ∃ ys, ys = uintB m ∧ J ys W' := by
 refine callsIn_of_wp Tryz.func223 rfl hf ?_ hro
 simp only [Tryz.ntmps223, List.size_toArray, List.length_cons, List.length_nil, Nat.reduceAdd, Nat.reduceSub, Array.replicate_succ, Array.replicate_zero, List.push_toArray, List.append_toArray, List.nil_append, List.cons_append]
 gi_wp2
 gi_loopw [] (fun wr => ∃ (pre : List UInt8) (q : Nat), uintB m = pre ++ uintB q ∧ q ≤ m ∧ Boxed wr B 138 (.int .u64 (q : Int)) ∧ J pre wr)
  (fun wr => (intOf ((wr.cell? ⟨B, 0, none⟩).getD undef)).toNat)
 case atStart => exact ⟨[], m, rfl, Nat.le_refl _, hB, h0⟩
 case round =>
  obtain ⟨pre, q, hpq, hqm, hb, hj⟩ := hrel
  have hc := hb.cell
  have hfz := hb.frozen
  have hpl : pre.length < N := by
   have := congrArg List.length hpq
   have h1 := uintB_pos q
   rw [List.length_append] at this
   omega
  by_cases hq : q < 128
  ·obtain ⟨x, hx⟩ : ∃ x, UInt8.ofNat q = x := ⟨_, rfl⟩
   have hxn : x.toNat = q := by rw [← hx]; exact ofNat_toNat8 (by omega)
   obtain ⟨fn, tmps, assign, body, hy, hR⟩ := hY pre x wr hj hpl
   rw [show u8V x = Value.int .u8 (q : Int) by rw [u8V, hxn]] at hy
   gi_wp2
   refine hR.mono ?_
   rintro e W3 ⟨rfl, hj3, _⟩
   gi_wp2
   go_end0
   exact ⟨⟨_, rfl⟩, _, rfl, by rw [hpq, uintB_lt hq, hx]; exact hj3⟩
  ·obtain ⟨x, hx⟩ : ∃ x, UInt8.ofNat (q % 128 + 128) = x := ⟨_, rfl⟩
   have hxn : x.toNat = q % 128 + 128 := by rw [← hx]; exact ofNat_toNat8 (by omega)
   obtain ⟨fn, tmps, assign, body, hy, hR⟩ := hY pre x wr hj hpl
   have hq2 : 128 ≤ q := by omega
   have hor : bits .or .u8 ((q : Int) % 256) 128 = (q : Int) % 128 + 128 := by
    have h1 := u8_or_nat (q % 256) 128 (by omega) (by decide)
    have h2 : ∀ z, z < 256 → z ||| 128 = z % 128 + 128 := by decide
    rw [h2 _ (by omega)] at h1
    have e1 : ((q % 256 : Nat) : Int) = (q : Int) % 256 := by omega
    rw [e1] at h1
    rw [show ((128 : Nat) : Int) = 128 from rfl] at h1
    rw [h1]
    omega
   rw [show u8V x = Value.int .u8 ((q : Int) % 128 + 128) by rw [u8V, hxn]; rfl] at hy
   gi_wp2
   refine hR.mono ?_
   rintro e W3 ⟨rfl, hj3, hk3⟩
   have hb3 : Boxed W3 B 138 (.int .u64 (q : Int)) := Eq.trans hk3 hb
   have HB3 := Lib.hid hb3
   have HCW := Lib.hid hc
   have hc3 := hb3.cell
   have hf3 := hb3.frozen
   clear hc hfz
   gi_wp2
   have e7 : (q : Int) / 128 = ((q / 128 : Nat) : Int) := by omega
   rw [e7, HCW.out]
   have hb4 := HB3.out.set (Value.int .u64 ((q / 128 : Nat) : Int))
   rw [hb4.cell]
   refine ⟨⟨pre ++ [x], q / 128, ?_, Nat.le_trans (Nat.div_le_self _ _) hqm, hb4, hJs _ _ _ ⟨_, rfl⟩ hj3⟩, ?_⟩
   ·rw [hpq, uintB_ge hq, hx]
    simp
   ·show (((q / 128 : Nat) : Int)).toNat < ((q : Int)).toNat
    omega
end Go.Proofs.YtlfikhblmbidmaaGreatDoor
namespace Go.Proofs.YtlfikhblmbidmaaGreatDoor
open Go.RowKit Go.Maps
attribute [local go_sem] Oper.semAt_some
structure WrAt (w : World) (p : Nat) (v : Value) (bs : List UInt8) : Prop where
 blk : Blk w p 201 #[.bool true, v]
 row : w.ownsRow (p + 1) 5 1 v bs.length (bs.map u8V)
structure WStep (w : World) (p : Nat) (v : Value) (w' : World) (v' : Value) (bs' : List UInt8) : Prop where
 fr : Fr (fun i => i = p ∨ v.ownBlock = some i) w w'
 own : ∀ i, v'.ownBlock = some i → v.ownBlock = some i ∨ w.heap.size ≤ i
 at_ : WrAt w' p v' bs'
theorem WStep.refl {w : World} {p : Nat} {v : Value} {bs : List UInt8} (h : WrAt w p v bs) : WStep w p v w v bs := ⟨Fr.refl _ _, fun i e => .inl e, h⟩
theorem WStep.trans {w w' w'' : World} {p : Nat} {v v' v'' : Value} {bs bs' : List UInt8} (h : WStep w p v w' v' bs) (k : WStep w' p v' w'' v'' bs') : WStep w p v w'' v'' bs' := by
 refine ⟨h.fr.trans' k.fr (fun i hi e => ?_), fun i e => ?_, k.at_⟩
 ·rcases e with e | e
  ·exact .inl e
  ·rcases h.own i e with e' | e'
   ·exact .inr e'
   ·omega
 ·rcases k.own i e with e' | e'
  ·exact h.own i e'
  ·exact .inr (Nat.le_trans h.fr.size e')
theorem WrAt.fr {S : Nat → Prop} {w w' : World} {p : Nat} {v : Value} {bs : List UInt8} (h : WrAt w p v bs) (k : Fr S w w') (hp : ¬ S p) (hv : ∀ i, v.ownBlock = some i → ¬ S i) : WrAt w' p v bs := by
 refine ⟨h.blk.fr k hp, h.row.1, ?_⟩
 rcases h.row.2 with hn | ⟨g, cap, cur, rfl, hb, hg, rest⟩
 ·exact .inl hn
 ·exact .inr ⟨g, cap, cur, rfl, hb, (k.block g (Array.getElem?_eq_some_iff.1 hg).1 (hv g rfl)).trans hg, rest⟩
theorem WrAt.cellsRow {w : World} {p : Nat} {v : Value} {bs : List UInt8} (h : WrAt w p v bs) {i : Nat} (e : v.ownBlock = some i) : ∃ cur, w.heap[i]? = some (.cells cur 5 (0, 0)) := by
 rcases h.row.2 with ⟨rfl, _⟩ | ⟨g, cap, cur, rfl, hb, hg, rest⟩
 ·cases e
 ·cases e; exact ⟨cur, hg⟩
theorem WStep.fr2 {S : Nat → Prop} {w w' w'' : World} {p : Nat} {v v' : Value} {bs : List UInt8} (h : WStep w p v w' v' bs) (k : Fr S w' w'') (hS : ∀ i, S i → w.heap.size ≤ i) (hp : p < w.heap.size) (hv : ∀ i, v'.ownBlock = some i → ¬ S i) : WStep w p v w'' v' bs :=
 ⟨h.fr.trans' k (fun i hi e => by have := hS i e; omega), h.own, h.at_.fr k (fun e => by have := hS p e; omega) hv⟩
theorem digits_any (m : Nat) (w : World) :
  Calls Tryz.prog 202 #[.int .u64 (m : Int)] w fun e w' => e = .returned (.func (.func 223) #[] #[.pointer (some ⟨w.heap.size, 0, none⟩)]) ∧ w' = w.alloc (.cells #[.int .u64 (m : Int)] 138) := by
 go_enter Tryz.func202, Tryz.ntmps202
 go_wp2
 go_ret
 exact ⟨rfl, rfl⟩
theorem digits_st (F : Fence) (n : Nat) (hf : F.fn 223) (hro : F.round = none) (hn : 1 ≤ n) (B m : Nat) (hm : m < 18446744073709551616) (w : World) (hB : Boxed w B 138 (.int .u64 (m : Int))) :
  SeqSt F n Tryz.prog 223 #[.pointer (some ⟨B, 0, none⟩)] (fun x : UInt8 => #[u8V x]) (BoxKp B) (BoxSt B) (fun ys => ys = uintB m) 10 w := fun l J W hW _ hJs hY h0 =>
 digits1_in F n hf hro hn l B 10 m hm (uintB_len10 hm) J (fun pre X Y h => hJs pre X Y h) hY W ((hW.block B hB.lt).trans hB) h0
theorem info_u8 : (Tryz.prog.info? 5).map (fun i => (i.zero, i.size, i.bytes)) = some (some (.int .u8 0), 1, 1) := by kernel_rfl
theorem leaf_uint {w W W9 wa : World} {p N g2 cap2 : Nat} {v v' : Value} {bs pre : List UInt8} {x : UInt8} {x' : Value} (B : Nat) (hS' : WStep w p v W v' (bs ++ pre)) (hp : p < w.heap.size) (hB : w.heap.size + 2 ≤ B) (hz : B ≤ W.heap.size)
    (bX' : Boxed W w.heap.size 98 (.pointer (some ⟨p, 0, none⟩))) (bN' : Boxed W (w.heap.size + 1) 138 x') (h9 : W9.heap.size = W.heap.size + 1) (f9 : Fr (fun i => i = p ∨ v'.ownBlock = some i) W W9)
    (fa : Fr (fun i => v'.ownBlock = some i) W9 wa) (hb : Blk wa p 201 #[.bool true, v']) (ho : v'.ownBlock = some g2 ∨ g2 = W9.heap.size)
    (hr : wa.ownsRow (p + 1) 5 1 (.slice (some ⟨g2, 0, none⟩) N cap2) ((bs ++ pre).length + 1) ((bs ++ pre).map u8V ++ [u8V x])) :
    KeepsFrom B W (wa.setCell ⟨p, 1, none⟩ (.slice (some ⟨g2, 0, none⟩) N cap2)) ∧ BoxKp (w.heap.size + 1) W (wa.setCell ⟨p, 1, none⟩ (.slice (some ⟨g2, 0, none⟩) N cap2)) ∧
    ((∃ v', WStep w p v (wa.setCell ⟨p, 1, none⟩ (.slice (some ⟨g2, 0, none⟩) N cap2)) v' (bs ++ (pre ++ [x]))) ∧ Boxed (wa.setCell ⟨p, 1, none⟩ (.slice (some ⟨g2, 0, none⟩) N cap2)) w.heap.size 98 (.pointer (some ⟨p, 0, none⟩)) ∧
      (∃ x, Boxed (wa.setCell ⟨p, 1, none⟩ (.slice (some ⟨g2, 0, none⟩) N cap2)) (w.heap.size + 1) 138 x) ∧ B ≤ (wa.setCell ⟨p, 1, none⟩ (.slice (some ⟨g2, 0, none⟩) N cap2)).heap.size) := by
  obtain ⟨u, hu⟩ : ∃ u, Value.slice (some ⟨g2, 0, none⟩) N cap2 = u := ⟨_, rfl⟩
  have hug : u.ownBlock = some g2 := by rw [← hu]; rfl
  rw [hu] at hr ⊢
  have fr : Fr (fun i => i = p ∨ v'.ownBlock = some i) W (wa.setCell ⟨p, 1, none⟩ u) := (f9.trans' fa (fun i _ e => .inr e)).setCell (.inl (.inl rfl)) u
  have hst : WStep W p v' (wa.setCell ⟨p, 1, none⟩ u) u (bs ++ (pre ++ [x])) := by
    refine ⟨fr, fun i e => ?_, ⟨hb.set 1 u, ?_⟩⟩
    · rw [hug] at e
      cases e
      rcases ho with h | h
      · exact .inl h
      · right; omega
    · have := ownsRow_setCell_below hr (a := ⟨p, 1, none⟩) (show p < p + 1 by omega) u
      rw [← List.append_assoc, List.length_append, List.map_append]
      exact this
  have hneX : ∀ i, v'.ownBlock = some i → i ≠ w.heap.size := fun i e h => by
    subst h
    obtain ⟨cur, hcur⟩ := hS'.at_.cellsRow e
    have := (show W.heap[w.heap.size]? = _ from bX').symm.trans hcur
    simp at this
  have hneN : ∀ i, v'.ownBlock = some i → i ≠ w.heap.size + 1 := fun i e h => by
    subst h
    obtain ⟨cur, hcur⟩ := hS'.at_.cellsRow e
    have := (show W.heap[w.heap.size + 1]? = _ from bN').symm.trans hcur
    simp at this
  have eX := fr.block w.heap.size (by omega) (fun e => by rcases e with e | e; · omega
                                                          · exact hneX _ e rfl)
  have eN := fr.block (w.heap.size + 1) (by omega) (fun e => by rcases e with e | e; · omega
                                                                · exact hneN _ e rfl)
  refine ⟨⟨fr.size, fun k o hk hok hc => (fr.block k (Array.getElem?_eq_some_iff.1 hok).1 (fun e => ?_)).trans hok⟩, eN, ⟨u, hS'.trans hst⟩, eX.trans bX', ⟨x', eN.trans bN'⟩, Nat.le_trans hz fr.size⟩
  rcases e with e | e
  · omega
  · obtain ⟨cur, hcur⟩ := hS'.at_.cellsRow e
    rw [hcur] at hok
    cases hok
    cases hc
set_option maxRecDepth 100000 in
set_option maxHeartbeats 2000000 in
theorem uint_any (p m : Nat) (v : Value) (bs : List UInt8) (w : World) (h : WrAt w p v bs) (hm : m < 18446744073709551616) (hl : bs.length ≤ 100000000) :
  Calls Tryz.prog 153 #[.pointer (some ⟨p, 0, none⟩), .int .u64 (m : Int)] w fun e w' => ∃ v', e = .returned (.tuple #[]) ∧ WStep w p v w' v' (bs ++ uintB m) := by
 refine (callsIn_wide (n := 6)).1 ?_
 have hro : Fence.wide.round = none := rfl
 obtain ⟨i0, hi, hz0, hz1, hz2⟩ := info_parts info_u8
 have HI := Lib.hid hi
 have HZ0 := Lib.hid hz0
 have HZ1 := Lib.hid hz1
 have HZ2 := Lib.hid hz2
 clear hi hz0 hz1 hz2
 have hp := h.blk.lt
 have c0 := h.blk.cell (i := 0) (v := .bool true) rfl
 have HS0 := Lib.hid (WStep.refl h)
 refine callsIn_of_wp_marks Tryz.func153 rfl trivial ?_ hro
 simp only [Tryz.ntmps153, List.size_toArray, List.length_cons, List.length_nil, Nat.reduceAdd, Nat.reduceSub, Array.replicate_succ, Array.replicate_zero, List.push_toArray, List.append_toArray, List.nil_append, List.cons_append]
 gi_wp2_with (refine ⟨trivial, ?_⟩; gi_at_call 202; refine (callsIn_wide.2 (digits_any m _)).mono ?_; rintro e w' ⟨rfl, rfl⟩)
 obtain ⟨W0, hW0⟩ : ∃ W0, (w.alloc (.cells #[.pointer (some ⟨p, 0, none⟩)] 98)).alloc (.cells #[.int .u64 (m : Int)] 138) = W0 := ⟨_, rfl⟩
 have bX : Boxed W0 w.heap.size 98 (.pointer (some ⟨p, 0, none⟩)) := by rw [← hW0]; exact (Boxed.new w _ _).alloc _
 have bN : Boxed W0 (w.heap.size + 1) 138 (.int .u64 (m : Int)) := by
  rw [← hW0]
  have := Boxed.new (w.alloc (.cells #[.pointer (some ⟨p, 0, none⟩)] 98)) 138 (.int .u64 (m : Int))
  rwa [World.size_alloc] at this
 have hsz : W0.heap.size = w.heap.size + 2 := by rw [← hW0]; simp
 have hS : WStep w p v W0 v bs := by
  rw [← hW0]
  exact HS0.out.fr2 (((Fr.refl S0 w).alloc _).alloc _) (fun i e => e.elim) hp (fun i _ e => e.elim)
 rw [hW0]
 clear hW0 c0
 refine wpIn_rangeFunc_st hro (by omega) (gf := 223) (lb := #[.pointer (some ⟨w.heap.size + 1, 0, none⟩)]) rfl trivial (enters_of Tryz.func223 (by kernel_rfl) rfl)
  (digits_st Fence.wide (6 - 1) trivial hro (by omega) (w.heap.size + 1) m hm W0 bN)
  (fun X Y h k o hk ho hc => ?st) (fun h k => Eq.trans k h) (fun W l o o' hl ho hc hw => ?kb) (Below.refl _ _) (fun _ => rfl)
  (fun pre W => (∃ v', WStep w p v W v' (bs ++ pre)) ∧ Boxed W w.heap.size 98 (.pointer (some ⟨p, 0, none⟩)) ∧ (∃ x, Boxed W (w.heap.size + 1) 138 x) ∧ W0.heap.size ≤ W.heap.size)
  (fun pre X Y row hs hg hr => ?own) (fun pre X Y h hs => ?stab) ⟨⟨v, by rw [List.append_nil]; exact hS⟩, bX, ⟨_, bN⟩, Nat.le_refl _⟩
  (fun x => { tmps := #[.pointer (some ⟨p, 0, none⟩), .int .u64 (m : Int), .pointer (some ⟨w.heap.size, 0, none⟩), undef, u8V x, .pointer (some ⟨p, 0, none⟩), .bool false, .bool false, .pointer (some ⟨p, 0, none⟩), .pointer (some ⟨p, 0, none⟩), .pointer (some ⟨p, 0, none⟩), .bool true, .bool false, .bool false, .int .u64 (m : Int),
   .func (.func 223) #[] #[.pointer (some ⟨w.heap.size + 1, 0, none⟩)], u8V x, undef, undef, undef, undef, undef, undef, undef, undef, undef, undef], defers := [] }) ?assign ?body ?done
 case st =>
  obtain ⟨u, rfl⟩ := h
  exact (Below.heap_setCell X _ u k (by show k ≠ w.heap.size + 1; omega)).trans ho
 case kb =>
  exact World.putObj_heap_other (by omega)
 case own =>
  obtain ⟨⟨v', hS'⟩, bX', ⟨x', bN'⟩, hz⟩ := hs
  have hno : ∀ i, row = some i → w.heap.size + 2 ≤ i := fun i e => by have := (hr i e).1; omega
  refine ⟨⟨v', hS'.fr2 (Fr.of_grown hg (S := fun i => row = some i) (fun i e => e)) (fun i e => by have := hno i e; omega) hp (fun i e e' => ?_)⟩, bX'.kept hg (fun e => by have := hno _ e.symm; omega), ⟨x', bN'.kept hg (fun e => by have := hno _ e.symm; omega)⟩, Nat.le_trans hz hg.size⟩
  obtain ⟨_, o, ho, hc⟩ := hr i e'
  obtain ⟨cur, hcur⟩ := hS'.at_.cellsRow e
  rw [hcur] at ho
  cases ho
  cases hc
 case stab =>
  obtain ⟨u, rfl⟩ := h
  obtain ⟨⟨v', hS'⟩, bX', ⟨x', bN'⟩, hz⟩ := hs
  have hk : Fr (S1 (w.heap.size + 1)) X (X.setCell ⟨w.heap.size + 1, 0, none⟩ u) := (Fr.refl (S1 (w.heap.size + 1)) X).setCell (p := ⟨w.heap.size + 1, 0, none⟩) (.inl (show _ = _ from rfl)) u
  refine ⟨⟨v', hS'.fr2 hk (fun i e => by have e : i = w.heap.size + 1 := e; omega) hp (fun i e e' => ?_)⟩, bX'.other (by omega) u, ⟨u, bN'.set u⟩, by simpa [World.setCell] using hz⟩
  have e' : i = w.heap.size + 1 := e'
  subst e'
  obtain ⟨cur, hcur⟩ := hS'.at_.cellsRow e
  have := (show X.heap[w.heap.size + 1]? = _ from bN').symm.trans hcur
  simp at this
 case assign =>
  intro l x W K hK
  gi_wp2
  exact hK
 case body =>
  rintro l pre x W ⟨⟨v', hS'⟩, bX', ⟨x', bN'⟩, hz⟩ hlt
  have hcX := bX'.cell
  have hcV := hS'.at_.blk.cell (i := 1) (v := v') rfl
  have hfV := hS'.at_.blk.frozen 1
  have HROW := Lib.hid hS'.at_.row
  have hrb : ∀ i, v'.ownBlock = some i → p + 1 ≤ i ∧ i < W.heap.size := fun i e => hS'.at_.row.lt i e
  have hlen : (bs ++ pre).length + 1 ≤ 100000011 := by rw [List.length_append]; omega
  have ROW9 := Lib.hid ((hS'.at_.row.alloc (.cells #[u8V x] 5)).drew)
  have hsz9 : (W.alloc (.cells #[u8V x] 5)).drew.heap.size = W.heap.size + 1 := by simp
  have HSZ9 := Lib.hid hsz9
  have hWp := hS'.at_.blk.lt
  have BLK9 := Lib.hid (show Blk (W.alloc (.cells #[u8V x] 5)).drew p 201 #[.bool true, v'] from hS'.at_.blk.alloc _)
  have BX9 := Lib.hid (show Boxed (W.alloc (.cells #[u8V x] 5)).drew w.heap.size 98 (.pointer (some ⟨p, 0, none⟩)) from bX'.alloc _)
  have hrX : ∀ i, v'.ownBlock = some i → i ≠ w.heap.size := fun i e h => by
   subst h
   obtain ⟨cur, hcur⟩ := hS'.at_.cellsRow e
   have := (show W.heap[w.heap.size]? = _ from bX').symm.trans hcur
   simp at this
  clear hsz9
  gi_wp2
  refine wpIn_round_drew (S := (fun W => W.cell? ⟨w.heap.size, 0, none⟩ = some (.pointer (some ⟨p, 0, none⟩)))) (by kernel_rfl) (by kernel_rfl) (fun h => by obtain ⟨_, _, h⟩ := h; exact h.elim) ?_ (fun hHeld => ?_)
  ·exact hcX
  try dsimp only at hHeld
  refine hY 0 (some 17) hHeld ?_
  refine hY 1 (some 18) hHeld ?_
  refine hY 2 (some 19) hHeld ?_
  refine hY 3 (some 20) hHeld ?_
  refine hY 5 (some 22) hHeld ?_
  refine wpAnyH_ready (rs := [4, 6]) (by kernel_rfl) (by simp) ?_
  refine (AllReadyH.cons rfl (fun K' hK' => ?_) (AllReadyH.cons rfl (fun K' hK' => ?_) AllReadyH.nil))
  ·go_simp
   refine hK'.out _ _ ?_ (fun hHeld => ?_)
   ·first | exact by assumption | exact ((Fr.refl (S1 p) _).setCell (p := ⟨p, 1, none⟩) (.inl (show _ = _ from rfl)) _).cell (p := ⟨w.heap.size, 0, none⟩) (fun e => by have e : w.heap.size = p := e; omega) (by assumption) | go_keep
   clear hK' K'
   try dsimp only at hHeld
   try simp only [Act.put, List.setIfInBounds_toArray, List.set_cons_zero, List.set_cons_succ]
   refine wpAnyH_ready (rs := [6]) (by kernel_rfl) (by simp) ?_
   refine (AllReadyH.cons rfl (fun K' hK' => ?_) AllReadyH.nil)
   go_simp
   refine hK'.out _ _ ?_ (fun hHeld => ?_)
   ·first | exact by assumption | exact ((Fr.refl (S1 p) _).setCell (p := ⟨p, 1, none⟩) (.inl (show _ = _ from rfl)) _).cell (p := ⟨w.heap.size, 0, none⟩) (fun e => by have e : w.heap.size = p := e; omega) (by assumption) | go_keep
   clear hK' K'
   try dsimp only at hHeld
   try simp only [Act.put, List.setIfInBounds_toArray, List.set_cons_zero, List.set_cons_succ]
   refine wpAnyH_ready (rs := [7]) (by kernel_rfl) (by simp) ?_
   refine (AllReadyH.cons rfl (fun K' hK' => ?_) AllReadyH.nil)
   (refine step_append_lies _ rfl _ _ 26 rfl (p + 1) 5 i0 (.int .u8 0) 1 1 Tryz.underlying26 HI.out HZ0.out HZ1.out HZ2.out rfl (by decide) v' _ _ rfl ROW9.out ⟨W.heap.size, 0, none⟩ 1 1 [u8V x] rfl rfl (cell_one_new _ _ _) (by simp [Value.oneCell']) (by decide) (by unfold maxLen; omega) (by omega) (by rw [HSZ9.out]; omega) _ rfl ?_; intro g2 cap2 wa hra hga hoa hla; change K' (Act.put _ (some 24) _) _; have HRA := Lib.hid hra; have HGA := Lib.hid hga; have HOA := Lib.hid hoa; have fa0 : Fr (fun i => v'.ownBlock = some i) _ wa := Fr.of_grown hga (fun i e => e); have hBW := BLK9.out.fr fa0 (fun e => by have := hrb _ e; omega); have hc1 := hBW.cell (i := 1) (v := v') rfl; have hf1 := hBW.frozen 1; have hXa := fa0.cell (p := ⟨w.heap.size, 0, none⟩) (fun e => hrX _ e rfl) BX9.out.cell; have HBW := Lib.hid hBW; have HFA := Lib.hid fa0; clear hra hga hoa hBW fa0)
   refine hK'.out _ _ ?_ (fun hHeld => ?_)
   ·first | exact by assumption | exact ((Fr.refl (S1 p) _).setCell (p := ⟨p, 1, none⟩) (.inl (show _ = _ from rfl)) _).cell (p := ⟨w.heap.size, 0, none⟩) (fun e => by have e : w.heap.size = p := e; omega) (by assumption) | go_keep
   clear hK' K'
   try dsimp only at hHeld
   try simp only [Act.put, List.setIfInBounds_toArray, List.set_cons_zero, List.set_cons_succ]
   refine hY 8 (some 25) hHeld ?_
   refine hY 9 (some 26) hHeld ?_
   refine wpAnyH_ready (rs := [10]) (by kernel_rfl) (by simp) ?_
   refine (AllReadyH.cons rfl (fun K' hK' => ?_) AllReadyH.nil)
   go_simp
   refine hK'.out _ _ ?_ (fun hHeld => ?_)
   ·first | exact by assumption | exact ((Fr.refl (S1 p) _).setCell (p := ⟨p, 1, none⟩) (.inl (show _ = _ from rfl)) _).cell (p := ⟨w.heap.size, 0, none⟩) (fun e => by have e : w.heap.size = p := e; omega) (by assumption) | go_keep
   clear hK' K'
   try dsimp only at hHeld
   try simp only [Act.put, List.setIfInBounds_toArray, List.set_cons_zero, List.set_cons_succ]
   refine wpAnyH_done (by kernel_rfl) ?_ _
   (gi_wp2; rw [← List.length_append]; refine leaf_uint W0.heap.size hS' hp (by omega) hz bX' bN' HSZ9.out (Fr.drew ((Fr.refl _ W).alloc _)) HFA.out HBW.out HOA.out HRA.out)
  ·go_simp
   refine hK'.out _ _ ?_ (fun hHeld => ?_)
   ·first | exact by assumption | exact ((Fr.refl (S1 p) _).setCell (p := ⟨p, 1, none⟩) (.inl (show _ = _ from rfl)) _).cell (p := ⟨w.heap.size, 0, none⟩) (fun e => by have e : w.heap.size = p := e; omega) (by assumption) | go_keep
   clear hK' K'
   try dsimp only at hHeld
   try simp only [Act.put, List.setIfInBounds_toArray, List.set_cons_zero, List.set_cons_succ]
   refine wpAnyH_ready (rs := [4]) (by kernel_rfl) (by simp) ?_
   refine (AllReadyH.cons rfl (fun K' hK' => ?_) AllReadyH.nil)
   go_simp
   refine hK'.out _ _ ?_ (fun hHeld => ?_)
   ·first | exact by assumption | exact ((Fr.refl (S1 p) _).setCell (p := ⟨p, 1, none⟩) (.inl (show _ = _ from rfl)) _).cell (p := ⟨w.heap.size, 0, none⟩) (fun e => by have e : w.heap.size = p := e; omega) (by assumption) | go_keep
   clear hK' K'
   try dsimp only at hHeld
   try simp only [Act.put, List.setIfInBounds_toArray, List.set_cons_zero, List.set_cons_succ]
   refine wpAnyH_ready (rs := [7]) (by kernel_rfl) (by simp) ?_
   refine (AllReadyH.cons rfl (fun K' hK' => ?_) AllReadyH.nil)
   (refine step_append_lies _ rfl _ _ 26 rfl (p + 1) 5 i0 (.int .u8 0) 1 1 Tryz.underlying26 HI.out HZ0.out HZ1.out HZ2.out rfl (by decide) v' _ _ rfl ROW9.out ⟨W.heap.size, 0, none⟩ 1 1 [u8V x] rfl rfl (cell_one_new _ _ _) (by simp [Value.oneCell']) (by decide) (by unfold maxLen; omega) (by omega) (by rw [HSZ9.out]; omega) _ rfl ?_; intro g2 cap2 wa hra hga hoa hla; change K' (Act.put _ (some 24) _) _; have HRA := Lib.hid hra; have HGA := Lib.hid hga; have HOA := Lib.hid hoa; have fa0 : Fr (fun i => v'.ownBlock = some i) _ wa := Fr.of_grown hga (fun i e => e); have hBW := BLK9.out.fr fa0 (fun e => by have := hrb _ e; omega); have hc1 := hBW.cell (i := 1) (v := v') rfl; have hf1 := hBW.frozen 1; have hXa := fa0.cell (p := ⟨w.heap.size, 0, none⟩) (fun e => hrX _ e rfl) BX9.out.cell; have HBW := Lib.hid hBW; have HFA := Lib.hid fa0; clear hra hga hoa hBW fa0)
   refine hK'.out _ _ ?_ (fun hHeld => ?_)
   ·first | exact by assumption | exact ((Fr.refl (S1 p) _).setCell (p := ⟨p, 1, none⟩) (.inl (show _ = _ from rfl)) _).cell (p := ⟨w.heap.size, 0, none⟩) (fun e => by have e : w.heap.size = p := e; omega) (by assumption) | go_keep
   clear hK' K'
   try dsimp only at hHeld
   try simp only [Act.put, List.setIfInBounds_toArray, List.set_cons_zero, List.set_cons_succ]
   refine hY 8 (some 25) hHeld ?_
   refine hY 9 (some 26) hHeld ?_
   refine wpAnyH_ready (rs := [10]) (by kernel_rfl) (by simp) ?_
   refine (AllReadyH.cons rfl (fun K' hK' => ?_) AllReadyH.nil)
   go_simp
   refine hK'.out _ _ ?_ (fun hHeld => ?_)
   ·first | exact by assumption | exact ((Fr.refl (S1 p) _).setCell (p := ⟨p, 1, none⟩) (.inl (show _ = _ from rfl)) _).cell (p := ⟨w.heap.size, 0, none⟩) (fun e => by have e : w.heap.size = p := e; omega) (by assumption) | go_keep
   clear hK' K'
   try dsimp only at hHeld
   try simp only [Act.put, List.setIfInBounds_toArray, List.set_cons_zero, List.set_cons_succ]
   refine wpAnyH_done (by kernel_rfl) ?_ _
   (gi_wp2; rw [← List.length_append]; refine leaf_uint W0.heap.size hS' hp (by omega) hz bX' bN' HSZ9.out (Fr.drew ((Fr.refl _ W).alloc _)) HFA.out HBW.out HOA.out HRA.out)
 case done =>
  rintro D ys W hD rfl ⟨⟨v', hS'⟩, bX', ⟨x', bN'⟩, hz⟩ hK
  gi_wp2
  refine ⟨by simp, .inl ⟨_, _, rfl, run_takeDeferred hK, ?_⟩⟩
  refine ⟨_, results_none rfl _ _ _, v', rfl, hS'.fr2 (S := S1 D) (Fr.of_grown (grownBy_putObj' W D (.deferred none)) (fun i e => by cases e; rfl)) (fun i e => by have e : i = D := e; omega) hp (fun i e e' => ?_)⟩
  have e' : i = D := e'
  subst e'
  obtain ⟨cur, hcur⟩ := hS'.at_.cellsRow e
  have := hK.symm.trans hcur
  simp at this
end Go.Proofs.YtlfikhblmbidmaaGreatDoor
namespace Go.Proofs.YtlfikhblmbidmaaGreatDoor
open Go.RowKit Go.Maps
theorem wnew_any (w : World) : Calls Tryz.prog 150 #[] w fun e w' => ∃ p, e = .returned (.pointer (some ⟨p, 0, none⟩)) ∧ WrAt w' p (.slice none 0 0) [] ∧ w.heap.size ≤ p ∧ Below w.heap.size w w' := by
 go_enter Tryz.func150, Tryz.ntmps150
 go_wp2_with fail
 go_returns
 exact ⟨_, rfl, ⟨Blk.new _ _ _, World.ownsRow_nil _ _ _ _⟩, Nat.le_refl _, (Below.refl _ w).alloc (Nat.le_refl _) _⟩
theorem wlen_any (p : Nat) (v : Value) (bs : List UInt8) (w : World) (h : WrAt w p v bs) :
  Calls Tryz.prog 151 #[.pointer (some ⟨p, 0, none⟩)] w fun e w' => e = .returned (.int .i64 (bs.length : Int)) ∧ w = w' := by
 have c1 := h.blk.cell (i := 1) (v := v) rfl
 obtain ⟨a, cap, rfl⟩ : ∃ a cap, v = .slice a bs.length cap := by
  rcases h.row.2 with ⟨rfl, hn⟩ | ⟨g, cap, cur, rfl, _⟩
  ·exact ⟨none, 0, by rw [hn]⟩
  ·exact ⟨_, cap, rfl⟩
 go_enter Tryz.func151, Tryz.ntmps151
 go_wp2_with fail
 go_returns
 exact ⟨rfl, rfl⟩
theorem bsIn_row {w : World} {lo : Nat} {v : Value} {bs : List UInt8} (h : w.ownsRow lo 5 1 v bs.length (bs.map u8V)) : BsIn w v bs := by
 rcases h.2 with ⟨rfl, hn⟩ | ⟨g, cap, cur, rfl, hb, hg, hle, hcap, hsz, htake⟩
 ·exact ⟨none, 0, by rw [hn], by omega, by unfold maxLen; omega, fun h0 => by omega⟩
 ·refine ⟨_, cap, rfl, hle, hcap, fun h0 => ⟨g, 0, rfl, (Array.getElem?_eq_some_iff.1 hg).1, fun i z hz => ?_⟩⟩
  have hB : Blk w g 5 cur := hg
  rw [Nat.zero_add]
  refine hB.cell ?_
  have hil : i < bs.length := (List.getElem?_eq_some_iff.1 hz).1
  have h1 : (bs.map u8V)[i]? = some (u8V z) := by rw [List.getElem?_map, hz]; rfl
  rw [← htake, List.getElem?_take, if_pos (by omega)] at h1
  rw [← Array.getElem?_toList]
  exact h1
theorem u8_one (bs : List UInt8) : ∀ u ∈ bs.map u8V, u.oneCell' = true := fun u hu => by
 obtain ⟨x, _, rfl⟩ := List.mem_map.1 hu
 rfl
set_option maxRecDepth 100000 in
set_option maxHeartbeats 2000000 in
theorem bclone_any (v : Value) (bs : List UInt8) (w : World) (h : BsIn w v bs) (hl : bs.length ≤ 100000000) :
  Calls Tryz.prog 23 #[v] w fun e w' => ∃ vo, e = .returned vo ∧ w'.ownsRow w.heap.size 5 1 vo bs.length (bs.map u8V) ∧ Below w.heap.size w w' := by
 obtain ⟨i0, hi, hz0, hz1, hz2⟩ := info_parts info_u8
 have HI := Lib.hid hi
 have HZ0 := Lib.hid hz0
 have HZ1 := Lib.hid hz1
 have HZ2 := Lib.hid hz2
 clear hi hz0 hz1 hz2
 obtain ⟨A0, cap0, rfl, hcap0, hmax0, hcells⟩ := h
 have hq : ∀ (w : World) (a : Option Addr) (n c n' c' : Nat), (binOp .eql 26 (.slice a n c) (.slice none n' c')).run Tryz.prog w = .ok (.bool a.isNone) w := fun w a n c n' c' => Lib.run_eql_slice_nil w _ _ a n c n' c' Tryz.underlying26
 cases A0 with
 | none =>
  have hL : bs = [] := by
   cases bs with
   | nil => rfl
   | cons x r =>
    obtain ⟨b, off, e, _⟩ := hcells (by simp)
    cases e
  subst hL
  clear hcells
  go_enter Tryz.func23, Tryz.ntmps23
  go_wp2_with fail
  go_returns
  exact ⟨_, rfl, ⟨rfl, .inl ⟨rfl, rfl⟩⟩, Below.refl _ _⟩
 | some a =>
  have hfl : Hid (∀ j u, (bs.map u8V)[j]? = some u → w.cell? (a.add j) = some u) := fun j u hu => by
   rw [List.getElem?_map] at hu
   cases hz : bs[j]? with
   | none => rw [hz] at hu; cases hu
   | some z =>
    rw [hz] at hu
    cases hu
    obtain ⟨b, off, e, _, hc⟩ := hcells (by have := (List.getElem?_eq_some_iff.1 hz).1; omega)
    cases e
    rw [Addr.add_lit]
    exact hc j z hz
  have HFN := Lib.hid (show (bs.map u8V).length = bs.length * 1 by simp)
  clear hcells
  go_enter Tryz.func23, Tryz.ntmps23
  go_wp2_with (first
   | (at_builtin; refine wpList_append_own_at _ rfl _ _ 26 rfl w.heap.size 5 i0 (.int .u8 0) 1 1 Tryz.underlying26 HI.out HZ0.out HZ1.out HZ2.out rfl (by decide) _ 0 [] rfl (World.ownsRow_made w #[] 0 (Nat.le_refl _) (Nat.zero_le _) (by simp)) a bs.length cap0 (bs.map u8V) rfl HFN.out (fun j u hu => Lib.cell?_alloc_some _ (hfl.out j u hu)) (u8_one bs) (by unfold maxLen; omega) (by omega) (by simp) ?_; intro v9 w9 hown' hgrow _ hoa; have HOWN := Lib.hid hown'; have HGR := Lib.hid hgrow; clear hown' hgrow hoa))
  go_returns
  refine ⟨_, rfl, by simpa using HOWN.out, ?_⟩
  have f9 : Fr (S1 w.heap.size) (w.alloc (.cells #[] 5)) w9 := Fr.of_grown HGR.out (fun i e => by cases e; rfl)
  exact Fr.upB ((Below.refl _ w).alloc (Nat.le_refl _) _) f9 (fun i e => by have e : i = w.heap.size := e; omega)
theorem wbytes_any (p : Nat) (v : Value) (bs : List UInt8) (w : World) (h : WrAt w p v bs) (hl : bs.length ≤ 100000000) :
  Calls Tryz.prog 152 #[.pointer (some ⟨p, 0, none⟩)] w fun e w' => ∃ vo, e = .returned vo ∧ w'.ownsRow w.heap.size 5 1 vo bs.length (bs.map u8V) ∧ Below w.heap.size w w' := by
 have c1 := h.blk.cell (i := 1) (v := v) rfl
 have HC := bclone_any v bs w (bsIn_row h.row) hl
 go_enter Tryz.func152, Tryz.ntmps152
 go_wp2_with (go_at_call 23; refine HC.mono ?_; rintro e w2 ⟨vo, rfl, ho, b2⟩)
 go_returns
 exact ⟨_, rfl, ho, b2⟩
end Go.Proofs.YtlfikhblmbidmaaGreatDoor
namespace Go.Proofs.YtlfikhblmbidmaaGreatDoor
open Go.RowKit Go.Maps Go.Lib
section
variable {P : Program} {w : World}
theorem run_append_str_at (base : Nat) (t u ty e : TypeId) (i : TypeInfo) (ht : P.underlying t = some (.slice e)) (hu : P.underlying u = some .string) (hi : P.info? e = some i) (hz : i.zero = some (.int .u8 0))
  (hsize : i.size = 1) (hby : i.bytes = 1) (v : Value) (n : Nat) (xs : List Value) (hown : w.ownsRow base e 1 v n xs) (s : ByteArray)
  (h63 : n + s.size ≤ maxLen) (hbytes : n + s.size ≤ 140737488355328) (hbase : base ≤ w.heap.size) :
  ∃ v' w', (Builtin.append_ #[t, u] ty #[v, .string s]).run P w = .ok v' w' ∧ w'.ownsRow base e 1 v' (n + s.size) (xs ++ strCells s) ∧ w.grownBy w' v.ownBlock ∧ (∀ j, v'.ownBlock = some j → v.ownBlock = some j ∨ w.heap.size ≤ j) := by
 obtain ⟨v', w', hr, h2, h3, _⟩ := run_append_own_string (P := P) w base t u ty e i ht hu hi hz hsize hby v n xs hown s h63 hbytes hbase
 refine ⟨v', w', hr, h2, h3, ?_⟩
 have hxl : xs.length = n := by simpa using hown.1
 rcases hown.2 with ⟨rfl, rfl⟩ | ⟨g, cap, cur, rfl, hbg, hg, hnc, hcm, hcs, htake⟩
 ·have hx : xs = [] := List.eq_nil_of_length_eq_zero hxl
  subst hx
  obtain ⟨v2, w2, hr2, h4, _, _⟩ := run_append_own_string (P := P) w w.heap.size t u ty e i ht hu hi hz hsize hby (.slice none 0 0) 0 [] (World.ownsRow_nil _ _ _ _) s h63 hbytes (Nat.le_refl _)
  rw [hr2] at hr
  cases hr
  exact fun j e => .inr (h4.lt j e).1
 ·by_cases hroom : n + s.size ≤ cap
  ·have hcs' : cur.size = cap := by simpa using hcs
   have hr2 := run_append_room_string (P := P) w t u ty e i ht hu hi hsize g n cap cur hg s hroom (by omega)
   rw [hr2] at hr
   cases hr
   exact fun j e => .inl e
  ·have holds : ∀ j u, xs[j]? = some u → w.cell? ((⟨g, 0, none⟩ : Addr).add j) = some u := hown.cells (g := g) rfl
   have hr2 := run_append_grow_string (P := P) w t u ty e i (.int .u8 0) ht hu hi hz ⟨g, 0, none⟩ n cap xs (by rw [hsize]; simpa using hxl) holds s (by omega) (by simp only [maxLen] at h63; omega) (by rw [hby]; exact growslice_fits (by omega) (by omega))
   rw [hr2] at hr
   cases hr
   exact fun j e => .inr (by cases e; exact Nat.le_refl _)
theorem wpList_append_str {ops : Array Oper} {rest : List Oper} {o : Oper} {a : Act} {Q : Exit → Act → World → Prop} (hgd : o.guard = none) (sl x : Operand) (t u : TypeId)
  (ho : o.op = .call { callee := .builtin .append, args := #[sl, x], argTypes := #[t, u] })
  (base : Nat) (e : TypeId) (i : TypeInfo) (ht : P.underlying t = some (.slice e)) (hu : P.underlying u = some .string) (hi : P.info? e = some i) (hz : i.zero = some (.int .u8 0))
  (hsize : i.size = 1) (hby : i.bytes = 1) (v : Value) (n : Nat) (xs : List Value) (hs : a.eval sl = v) (hown : w.ownsRow base e 1 v n xs) (s : ByteArray) (hx : a.eval x = .string s)
  (h63 : n + s.size ≤ maxLen) (hbytes : n + s.size ≤ 140737488355328) (hbase : base ≤ w.heap.size)
  (h : ∀ v' w', w'.ownsRow base e 1 v' (n + s.size) (xs ++ strCells s) → w.grownBy w' v.ownBlock → (∀ j, v'.ownBlock = some j → v.ownBlock = some j ∨ w.heap.size ≤ j) → wpList P ops Q rest (a.put o.dst v') w') : wpList P ops Q (o :: rest) a w := by
 refine wpList_plain hgd fun K hK => ?_
 obtain ⟨v', w', hr, h2, h3, h4⟩ := run_append_str_at (P := P) (w := w) base t u o.type e i ht hu hi hz hsize hby v n xs hown s h63 hbytes hbase
 unfold Oper.wp execOp
 simp only [ho, resolve, invoke, builtin, Sem.run_bind, Sem.run_pure, Result.andThen_ok, List.map_toArray, List.map_cons, List.map_nil, hs, hx, hr]
 exact hK _ _ (h v' w' h2 h3 h4)
end
theorem row_shape {w : World} {base : Nat} {e : TypeId} {k : Nat} {v : Value} {n : Nat} {xs : List Value} (h : w.ownsRow base e k v n xs) : ∃ a m c, v = .slice a m c := by
 rcases h.2 with ⟨rfl, _⟩ | ⟨g, c, cur, rfl, _⟩
 ·exact ⟨none, 0, 0, rfl⟩
 ·exact ⟨_, _, c, rfl⟩
theorem strCells_u8 (s : ByteArray) : strCells s = s.data.toList.map u8V := by simp [strCells]
set_option maxRecDepth 100000 in
set_option maxHeartbeats 2000000 in
theorem wtext_any (p : Nat) (v : Value) (bs : List UInt8) (s : ByteArray) (w : World) (h : WrAt w p v bs) (hl : bs.length ≤ 100000000) (hs : s.size ≤ 1000000) :
  Calls Tryz.prog 68 #[.pointer (some ⟨p, 0, none⟩), .string s] w fun e w' => ∃ v', e = .returned (.tuple #[]) ∧ WStep w p v w' v' (bs ++ textB s.data.toList) := by
 obtain ⟨i0, hi, hz0, hz1, hz2⟩ := info_parts info_u8
 have HI := Lib.hid hi
 have HZ0 := Lib.hid hz0
 have HZ1 := Lib.hid hz1
 have HZ2 := Lib.hid hz2
 clear hi hz0 hz1 hz2
 have hsl : s.data.toList.length = s.size := by simp
 have HU := Lib.hid (uint_any p s.size v bs w h (by omega) hl)
 have hul := uintB_len10 (n := s.size) (by omega)
 have HT : Hid (bs ++ textB s.data.toList = (bs ++ uintB s.size) ++ s.data.toList) := by rw [Hid, textB, hsl, List.append_assoc]
 rw [HT.out]
 go_enter Tryz.func68, Tryz.ntmps68
 go_wp2_with (first
  | (go_at_call 153; refine HU.out.mono ?_; rintro e w2 ⟨v2, rfl, hS2⟩; have c0 := hS2.at_.blk.cell (i := 0) (v := .bool true) rfl; have c1 := hS2.at_.blk.cell (i := 1) (v := v2) rfl; have hrb : ∀ i, v2.ownBlock = some i → p + 1 ≤ i ∧ i < w2.heap.size := fun i e => hS2.at_.row.lt i e; have hp2 := hS2.at_.blk.lt; have hl2 : (bs ++ uintB s.size).length ≤ 100000010 := (by rw [List.length_append]; omega))
  | (at_builtin; refine wpList_append_str rfl _ _ 26 9 rfl (p + 1) 5 i0 Tryz.underlying26 Tryz.underlying9 HI.out HZ0.out HZ1.out HZ2.out v2 _ _ rfl hS2.at_.row s rfl (by unfold maxLen; omega) (by omega) (by omega) ?_; intro v3 wa hra hga hoa; obtain ⟨a3, n3, c3, rfl⟩ : ∃ a3 n3 c3, v3 = Value.slice a3 n3 c3 := row_shape hra; have HRA := Lib.hid hra; have HOA := Lib.hid hoa; have fa0 : Fr (fun i => v2.ownBlock = some i) w2 wa := Fr.of_grown hga (fun i e => e); have hBW := hS2.at_.blk.fr fa0 (fun e => by have := hrb _ e; omega); have hc1 := hBW.cell (i := 1) (v := v2) rfl; have hf1 := hBW.frozen 1; have HBW := Lib.hid hBW; have HFA := Lib.hid fa0; clear hra hga hoa hBW fa0))
 go_returns
 refine ⟨_, rfl, hS2.trans ⟨(HFA.out.mono (fun i e => .inr e)).setCell (.inl (.inl rfl)) _, fun i e => HOA.out i e, ⟨HBW.out.set 1 _, ?_⟩⟩⟩
 have := ownsRow_setCell_below HRA.out (a := ⟨p, 1, none⟩) (show p < p + 1 by omega) (.slice a3 n3 c3)
 rw [strCells_u8] at this
 rw [List.length_append, List.map_append, hsl]
 exact this
end Go.Proofs.YtlfikhblmbidmaaGreatDoor
namespace Go.Proofs.YtlfikhblmbidmaaGreatDoor
open Go.RowKit Go.Maps
def uintsB (xs : List Nat) : List UInt8 := xs.flatMap uintB
theorem uintsB_snoc (xs : List Nat) (x : Nat) : uintsB (xs ++ [x]) = uintsB xs ++ uintB x := by simp [uintsB]
theorem uintsB_len : ∀ (xs : List Nat), (∀ x ∈ xs, x < 18446744073709551616) → (uintsB xs).length ≤ 10 * xs.length
 | [], _ => by simp [uintsB]
 | x :: xs, h => by
  have h1 := uintB_len10 (h x (List.mem_cons_self ..))
  have h2 := uintsB_len xs (fun y hy => h y (List.mem_cons_of_mem _ hy))
  simp only [uintsB, List.flatMap_cons, List.length_append, List.length_cons] at *
  omega
abbrev wrV (p : Nat) : Value := .agg #[.pointer (some ⟨p, 0, none⟩)]
set_option maxRecDepth 100000 in
set_option maxHeartbeats 2000000 in
theorem numbers_any (p b cap : Nat) (v : Value) (bs : List UInt8) (xs : List Nat) (w : World) (h : WrAt w p v bs) (hl : bs.length ≤ 90000000) (hn : xs.length ≤ 100) (hx : ∀ x ∈ xs, x < 9223372036854775808)
  (hb : b < w.heap.size) (hbp : b ≠ p) (hbv : v.ownBlock ≠ some b) (hc : ∀ (j x : Nat), xs[j]? = some x → w.cell? ⟨b, j, none⟩ = some (.int .i64 (x : Int))) :
  Calls Tryz.prog 80 #[wrV p, .slice (some ⟨b, 0, none⟩) xs.length cap] w fun e w' => ∃ v', e = .returned (.tuple #[]) ∧ WStep w p v w' v' (bs ++ uintsB xs) := by
 have hp := h.blk.lt
 have hvl : ∀ i, v.ownBlock = some i → i < w.heap.size := fun i e => (h.row.lt i e).2
 go_enter Tryz.func80, Tryz.ntmps80
 go_wp2_with fail
 obtain ⟨W0, hW0⟩ : ∃ W0, w.alloc (.cells #[.pointer (some ⟨p, 0, none⟩)] 100) = W0 := ⟨_, rfl⟩
 have hS0 : WStep w p v W0 v bs := by
  rw [← hW0]
  exact (WStep.refl h).fr2 ((Fr.refl S0 w).alloc _) (fun i e => e.elim) hp (fun i _ e => e.elim)
 have hbox : W0.cell? ⟨w.heap.size, 0, none⟩ = some (.pointer (some ⟨p, 0, none⟩)) := by
  rw [← hW0]
  exact (Blk.new w 100 #[.pointer (some ⟨p, 0, none⟩)]).cell rfl
 have hc0 : ∀ (j x : Nat), xs[j]? = some x → W0.cell? ⟨b, j, none⟩ = some (.int .i64 (x : Int)) := fun j x hj => by
  rw [← hW0]
  exact Lib.cell?_alloc_some _ (hc j x hj)
 have hsz : W0.heap.size = w.heap.size + 1 := by rw [← hW0]; simp
 rw [hW0]
 clear hW0 hc
 go_loopw [8] (fun c wr => ∃ (i : Nat) (v' : Value), i ≤ xs.length ∧ c = .int .i64 i ∧ WStep W0 p v wr v' (bs ++ uintsB (xs.take i))) (fun c _ => xs.length - (intOf c).toNat)
 case atStart => exact ⟨0, v, Nat.zero_le _, rfl, by simpa [uintsB] using WStep.refl hS0.at_⟩
 case round =>
  obtain ⟨i, v', hi, rfl, hS⟩ := hrel
  by_cases hlt : i < xs.length
  ·obtain ⟨x, hz⟩ : ∃ x, xs[i]? = some x := ⟨_, List.getElem?_eq_getElem hlt⟩
   have hx1 := hx x (List.mem_of_getElem? hz)
   have hi1 := Lib.hid (show i + 1 ≤ xs.length by omega)
   have hms := Lib.hid (show xs.length - (intOf (Value.int .i64 ((i + 1 : Nat) : Int))).toNat < xs.length - (intOf (Value.int .i64 (i : Int))).toNat by simp [intOf]; omega)
   have hw := Lib.hid (show ((i : Int) + 1) = ((i + 1 : Nat) : Int) by push_cast; rfl)
   have e1 : uintsB (xs.take (i + 1)) = uintsB (xs.take i) ++ uintB x := by
    rw [List.take_add_one, hz]
    exact uintsB_snoc _ _
   have hul := uintsB_len (xs.take i) (fun y hy => by have := hx y (List.mem_of_mem_take hy); omega)
   have hll : (bs ++ uintsB (xs.take i)).length ≤ 100000000 := by
    have : (xs.take i).length ≤ 100 := by rw [List.length_take]; omega
    rw [List.length_append]
    omega
   have hxc := hS.fr.cell (p := ⟨w.heap.size, 0, none⟩) (fun e => by
    rcases e with e | e
    ·have e : w.heap.size = p := e; omega
    ·have := hvl _ e; have e2 : (⟨w.heap.size, 0, none⟩ : Addr).block = w.heap.size := rfl; omega) hbox
   have hbc := hS.fr.cell (p := ⟨b, i, none⟩) (fun e => by
    rcases e with e | e
    ·exact hbp e
    ·exact hbv e) (hc0 i x hz)
   have HU := Lib.hid (uint_any p x v' _ wr hS.at_ (by omega) hll)
   go_wp2_with (go_at_call 153; refine HU.out.mono ?_; rintro e w2 ⟨v2, rfl, hS2⟩)
   rw [hw.out]
   exact ⟨⟨i + 1, v2, hi1.out, rfl, by rw [e1, ← List.append_assoc]; exact hS.trans hS2⟩, hms.out⟩
  ·obtain rfl : i = xs.length := by omega
   rw [List.take_length] at hS
   go_wp2_with fail
   go_returns
   exact ⟨v', rfl, hS0.trans hS⟩
abbrev NwA (w w2 : World) (b p : Nat) (xs : List Nat) : Prop :=
 (∀ (j x : Nat), xs[j]? = some x → (w2.alloc (.cells #[.pointer (some ⟨p, 0, none⟩)] 100)).cell? ⟨b, j, none⟩ = some (.int .i64 (x : Int))) ∧
 WrAt (w2.alloc (.cells #[.pointer (some ⟨p, 0, none⟩)] 100)) p (.slice none 0 0) [] ∧ b ≠ p ∧ w.heap.size ≤ p ∧ b < (w2.alloc (.cells #[.pointer (some ⟨p, 0, none⟩)] 100)).heap.size
theorem nw_first {b p : Nat} {xs : List Nat} {w w2 : World} (hb : b < w.heap.size) (hc : ∀ (j x : Nat), xs[j]? = some x → w.cell? ⟨b, j, none⟩ = some (.int .i64 (x : Int)))
  (hW2 : WrAt w2 p (.slice none 0 0) []) (hp2 : (w.alloc (.cells #[.pointer none] 100)).heap.size ≤ p) (b2 : Below (w.alloc (.cells #[.pointer none] 100)).heap.size (w.alloc (.cells #[.pointer none] 100)) w2) :
  NwA w w2 b p xs ∧ Blk w2 w.heap.size 100 #[.pointer none] ∧ w.heap.size < w2.heap.size ∧ Below w.heap.size w w2 := by
 rw [World.size_alloc] at hp2
 have hBR := (Blk.new w 100 #[.pointer none]).of_block (b2.block _ (by simp))
 have hbw : Below w.heap.size w w2 := ((Below.refl _ w).alloc (Nat.le_refl _) _).trans (b2.mono (by simp))
 have hsz := b2.size
 rw [World.size_alloc] at hsz
 refine ⟨⟨fun j x hj => Lib.cell?_alloc_some _ ((hbw.cell (p := ⟨b, j, none⟩) hb).trans (hc j x hj)), hW2.fr ((Fr.refl S0 w2).alloc _) (fun e => e) (fun i e => by cases e), by omega, by omega, by simp; omega⟩, hBR, by omega, hbw⟩
theorem no_own {i p : Nat} (h : i = p ∨ (Value.slice none 0 0).ownBlock = some i) : i = p := by
 rcases h with h | h
 ·exact h
 ·cases h
theorem nw_second {b p : Nat} {xs : List Nat} {w w2 w4 : World} {v4 : Value} (hR : NwA w w2 b p xs ∧ Blk w2 w.heap.size 100 #[.pointer none] ∧ w.heap.size < w2.heap.size ∧ Below w.heap.size w w2)
  (hpw : w.heap.size + 1 ≤ p) (hpl : p < w2.heap.size) (hS : WStep (w2.alloc (.cells #[.pointer (some ⟨p, 0, none⟩)] 100)) p (.slice none 0 0) w4 v4 ([] ++ uintsB xs)) :
  w4.cell? ⟨w2.heap.size, 0, none⟩ = some (.pointer (some ⟨p, 0, none⟩)) ∧ w4.cell? ⟨w.heap.size, 0, none⟩ = some (.pointer none) ∧ w4.frozen? ⟨w.heap.size, 0, none⟩ = false ∧
  WrAt (w4.setCell ⟨w.heap.size, 0, none⟩ (.pointer (some ⟨p, 0, none⟩))) p v4 (uintsB xs) ∧ Below w.heap.size w (w4.setCell ⟨w.heap.size, 0, none⟩ (.pointer (some ⟨p, 0, none⟩))) := by
 obtain ⟨⟨h1, h2, h3, h4, h5⟩, hB, hlt, hbw⟩ := hR
 have hX := (Blk.new w2 100 #[.pointer (some ⟨p, 0, none⟩)]).fr hS.fr (fun e => by have := no_own e; omega)
 have hB4 := (hB.alloc (.cells #[.pointer (some ⟨p, 0, none⟩)] 100)).fr hS.fr (fun e => by have := no_own e; omega)
 have f4 : Fr (S1 w.heap.size) w4 (w4.setCell ⟨w.heap.size, 0, none⟩ (.pointer (some ⟨p, 0, none⟩))) := (Fr.refl (S1 w.heap.size) w4).setCell (p := ⟨w.heap.size, 0, none⟩) (.inl (show _ = _ from rfl)) _
 refine ⟨hX.cell rfl, hB4.cell rfl, hB4.frozen 0, hS.at_.fr f4 (fun e => by have e : p = w.heap.size := e; omega) (fun i e e' => ?_), ?_⟩
 ·have e' : i = w.heap.size := e'
  rcases hS.own i e with h | h
  ·cases h
  ·rw [World.size_alloc] at h; omega
 ·refine Fr.upB (S := fun i => i = w.heap.size ∨ i = p) hbw ?_ (fun i e => by have e : i = w.heap.size ∨ i = p := e; omega)
  exact (((Fr.refl _ w2).alloc _).trans' hS.fr (fun i _ e => .inr (no_own e))).trans' f4 (fun i _ e => .inl e)
set_option maxRecDepth 100000 in
set_option maxHeartbeats 2000000 in
theorem newWriter_any (b cap : Nat) (xs : List Nat) (w : World) (hn : xs.length ≤ 100) (hx : ∀ x ∈ xs, x < 9223372036854775808)
  (hb : b < w.heap.size) (hc : ∀ (j x : Nat), xs[j]? = some x → w.cell? ⟨b, j, none⟩ = some (.int .i64 (x : Int))) :
  Calls Tryz.prog 65 #[.slice (some ⟨b, 0, none⟩) xs.length cap] w fun e w' => ∃ p v', e = .returned (wrV p) ∧ WrAt w' p v' (uintsB xs) ∧ w.heap.size ≤ p ∧ Below w.heap.size w w' := by
 go_enter Tryz.func65, Tryz.ntmps65
 go_wp2_with (first
  | (go_at_call 150; refine (wnew_any _).mono ?_; rintro e w2 ⟨p, rfl, hW2, hp2, b2⟩; have hR := nw_first hb hc hW2 hp2 b2; have hpw : w.heap.size + 1 ≤ p := (by simpa using hp2); have hpl := hW2.blk.lt; clear hc)
  | (go_at_call 80; refine (numbers_any p b cap (.slice none 0 0) [] xs _ hR.1.2.1 (by simp) hn hx hR.1.2.2.2.2 hR.1.2.2.1 (by intro e; cases e) hR.1.1).mono ?_; rintro e w4 ⟨v4, rfl, hS4⟩; have hQ := nw_second hR hpw hpl hS4; have q1 := hQ.1; have q2 := hQ.2.1; have q3 := hQ.2.2.1))
 have q4 : (w4.setCell ⟨w.heap.size, 0, none⟩ (.pointer (some ⟨p, 0, none⟩))).cell? ⟨w.heap.size, 0, none⟩ = some (.pointer (some ⟨p, 0, none⟩)) := World.cell?_setCell_same' _ _ _ (by rw [q2]; rfl)
 refine bodyPost_ret (by simp [results, Tryz.results65, go_sem, q4]; try rfl) rfl ?_
 exact ⟨p, v4, rfl, hQ.2.2.2.1, hR.1.2.2.2.1, hQ.2.2.2.2⟩
end Go.Proofs.YtlfikhblmbidmaaGreatDoor
namespace Go.Proofs.YtlfikhblmbidmaaGreatDoor
open Go.RowKit Go.Maps
set_option maxHeartbeats 1000000 in
theorem done_yes (p : Nat) (v : Value) (bs : List UInt8) (w : World) (h : WrAt w p v bs) (hl : bs.length ≤ 65536) :
  Calls Tryz.prog 66 #[wrV p] w fun e w' => ∃ vo, e = .returned (.tuple #[vo, .int .i64 0]) ∧ w'.ownsRow w.heap.size 5 1 vo bs.length (bs.map u8V) ∧ Below w.heap.size w w' := by
 have hp := h.blk.lt
 have h1 : WrAt (w.alloc (.cells #[.pointer (some ⟨p, 0, none⟩)] 100)) p v bs := h.fr ((Fr.refl S0 w).alloc _) (fun e => e) (fun i _ e => e)
 have hc := (Blk.new w 100 #[.pointer (some ⟨p, 0, none⟩)]).cell (i := 0) (v := .pointer (some ⟨p, 0, none⟩)) rfl
 have hd : decide ((bs.length : Int) > 65536) = false := by simp; omega
 have hL := Lib.hid (wlen_any p v bs _ h1)
 have hBt := Lib.hid (wbytes_any p v bs _ h1 (by omega))
 go_enter Tryz.func66, Tryz.ntmps66
 go_wp2_with (first
  | (go_at_call 151; refine hL.out.mono ?_; rintro e w2 ⟨rfl, rfl⟩)
  | (go_at_call 152; refine hBt.out.mono ?_; rintro e w2 ⟨vo, rfl, ho, b2⟩))
 go_returns
 exact ⟨_, rfl, World.ownsRow.mono ho (by simp), ((Below.refl _ w).alloc (Nat.le_refl _) _).trans (b2.mono (by simp))⟩
set_option maxHeartbeats 1000000 in
theorem done_no (p : Nat) (v : Value) (bs : List UInt8) (w : World) (h : WrAt w p v bs) (hl : 65536 < bs.length) :
  Calls Tryz.prog 66 #[wrV p] w fun e w' => e = .returned (.tuple #[.slice none 0 0, .int .i64 11]) ∧ Below w.heap.size w w' := by
 have hp := h.blk.lt
 have h1 : WrAt (w.alloc (.cells #[.pointer (some ⟨p, 0, none⟩)] 100)) p v bs := h.fr ((Fr.refl S0 w).alloc _) (fun e => e) (fun i _ e => e)
 have hc := (Blk.new w 100 #[.pointer (some ⟨p, 0, none⟩)]).cell (i := 0) (v := .pointer (some ⟨p, 0, none⟩)) rfl
 have hL := Lib.hid (wlen_any p v bs _ h1)
 go_enter Tryz.func66, Tryz.ntmps66
 go_wp2_with (first
  | (go_at_call 151; refine hL.out.mono ?_; rintro e w2 ⟨rfl, rfl⟩))
 go_returns
 exact ⟨rfl, (Below.refl _ w).alloc (Nat.le_refl _) _⟩
theorem isSlot_any (x : Int) (w : World) :
  Calls Tryz.prog 67 #[.int .i64 x] w fun e w' => e = .returned (.bool (decide (0 ≤ x ∧ x < 4096))) ∧ w = w' := by
 by_cases h1 : 0 ≤ x
 ·by_cases h2 : x < 4096
  ·go_enter Tryz.func67, Tryz.ntmps67
   go_wp2_with fail
   go_returns
   exact ⟨by simp; omega, rfl⟩
  ·go_enter Tryz.func67, Tryz.ntmps67
   go_wp2_with fail
   go_returns
   exact ⟨by simp; omega, rfl⟩
 ·go_enter Tryz.func67, Tryz.ntmps67
  go_wp2_with fail
  go_returns
  exact ⟨by simp; omega, rfl⟩
end Go.Proofs.YtlfikhblmbidmaaGreatDoor
namespace Go.Proofs.YtlfikhblmbidmaaGreatDoor
open Go.RowKit Go.Maps
def okB (r d : Int) : Bool := !(r == 0 && d == 0) && (chkE 7 r d == 0)
def chdE (wrong : Bool) (r d : Int) : Int := if !wrong && okB r d then 0 else 2
set_option maxRecDepth 100000 in
set_option maxHeartbeats 1000000 in
theorem checked_any (r d : Int) (wrong : Bool) (w : World) :
    Calls Tryz.prog 64 #[balV r d, .bool wrong] w fun e w' => e = .returned (.int .i64 (chdE wrong r d)) ∧ Below w.heap.size w w' := by
  have hE := fun (a b c d : Int) (w : World) => eqBal a b c d w
  have hG := eqGBal
  have hB0 := fun w => bldBal0 w
  have hb := box_below w (.cells #[.int .i64 r, .int .i64 d] 24)
  have b1 := Blk.new w 24 #[.int .i64 r, .int .i64 d]
  have e0 := b1.cell (i := 0) (v := .int .i64 r) rfl
  have e1 := b1.cell (i := 1) (v := .int .i64 d) rfl
  have HB := Lib.hid hb
  cases wrong with
  | true =>
    rw [show chdE true r d = 2 by simp [chdE]]
    clear hb b1
    go_enter Tryz.func64, Tryz.ntmps64
    go_wp2_with fail
    go_returns
    exact ⟨rfl, HB.out⟩
  | false =>
    by_cases hz : r = 0 ∧ d = 0
    · obtain ⟨rfl, rfl⟩ := hz
      rw [show chdE false 0 0 = 2 by decide]
      clear hb b1
      go_enter Tryz.func64, Tryz.ntmps64
      go_wp2_with fail
      go_returns
      exact ⟨rfl, HB.out⟩
    · have h3' : (r == 0 && d == 0) = false := by
        by_cases e : r = 0
        · by_cases e2 : d = 0
          · exact absurd ⟨e, e2⟩ hz
          · simp [e2]
        · simp [e]
      clear hb b1 hz
      by_cases hk : chkE 7 r d = 0
      · rw [show chdE false r d = 0 by simp [chdE, okB, h3', hk]]
        go_enter Tryz.func64, Tryz.ntmps64
        go_wp2_with (go_at_call 149; refine (check_any _ _ _ _).mono ?_; rw [hk]; rintro e w2 ⟨rfl, b2⟩; have q0 := bcell b2 e0; have q1 := bcell b2 e1; have HB2 := Lib.hid b2; clear b2)
        go_returns
        exact ⟨rfl, bchain HB.out HB2.out⟩
      · have hk2 : chkE 7 r d = 2 := by unfold chkE at hk ⊢; repeat' split
                                        all_goals simp_all
        rw [show chdE false r d = 2 by simp [chdE, okB, h3', hk2]]
        go_enter Tryz.func64, Tryz.ntmps64
        go_wp2_with (go_at_call 149; refine (check_any _ _ _ _).mono ?_; rw [hk2]; rintro e w2 ⟨rfl, b2⟩; have q0 := bcell b2 e0; have q1 := bcell b2 e1; have HB2 := Lib.hid b2; clear b2)
        go_returns
        exact ⟨rfl, bchain HB.out HB2.out⟩
end Go.Proofs.YtlfikhblmbidmaaGreatDoor
namespace Go.Proofs.YtlfikhblmbidmaaGreatDoor
open Go.RowKit Go.Maps
theorem okB_iff (r d : Int) : okB r d = true ↔ 1 ≤ r ∧ r ≤ 1073741824 ∧ 0 ≤ d ∧ d ≤ 6 := by
 unfold okB chkE
 by_cases hz : r = 0 ∧ d = 0
 ·obtain ⟨rfl, rfl⟩ := hz
  simp
 ·have h3' : (r == 0 && d == 0) = false := by
   by_cases e : r = 0
   ·by_cases e2 : d = 0
    ·exact absurd ⟨e, e2⟩ hz
    ·simp [e2]
   ·simp [e]
  rw [h3']
  simp [hz]
  repeat' split
  all_goals (try simp)
  all_goals omega
set_option maxRecDepth 100000 in
set_option maxHeartbeats 1000000 in
theorem sprom_no (r d : Int) (w : World) (h : okB r d = false) :
  Calls Tryz.prog 11 #[balV r d] w fun e w' => e = .returned (.tuple #[.slice none 0 0, .int .i64 2]) ∧ Below w.heap.size w w' := by
 have hb := box_below w (.cells #[.int .i64 r, .int .i64 d] 24)
 have b1 := Blk.new w 24 #[.int .i64 r, .int .i64 d]
 have e0 := b1.cell (i := 0) (v := .int .i64 r) rfl
 have e1 := b1.cell (i := 1) (v := .int .i64 d) rfl
 have HB := Lib.hid hb
 have hE : chdE false r d = 2 := by simp [chdE, h]
 clear hb b1
 go_enter Tryz.func11, Tryz.ntmps11
 go_wp2_with (go_at_call 64; refine (checked_any _ _ _ _).mono ?_; rw [hE]; rintro e w2 ⟨rfl, b2⟩; have HB2 := Lib.hid b2; clear b2)
 go_returns
 exact ⟨rfl, bchain HB.out HB2.out⟩
theorem ints_new (w : World) (xs : List Nat) : ∀ (j x : Nat), xs[j]? = some x → (w.alloc (.cells (xs.map fun (x : Nat) => Value.int .i64 (x : Int)).toArray 3)).cell? ⟨w.heap.size, j, none⟩ = some (.int .i64 (x : Int)) := fun j x hj =>
 (Blk.new w 3 (xs.map fun (x : Nat) => Value.int .i64 (x : Int)).toArray).cell (by simp [hj])
set_option maxRecDepth 100000 in
set_option maxHeartbeats 1000000 in
theorem sprom_yes (ro no : Nat) (w : World) (h : okB ro no = true) :
  Calls Tryz.prog 11 #[balV ro no] w fun e w' => ∃ vo, e = .returned (.tuple #[vo, .int .i64 0]) ∧ w'.ownsRow w.heap.size 5 1 vo (Rec.mk 1 ro no 0 []).bytes.length ((Rec.mk 1 ro no 0 []).bytes.map u8V) ∧ Below w.heap.size w w' := by
 have hok := (okB_iff _ _).1 h
 have hb := box_below w (.cells #[.int .i64 (ro : Int), .int .i64 (no : Int)] 24)
 have b1 := Blk.new w 24 #[.int .i64 (ro : Int), .int .i64 (no : Int)]
 have e0 := b1.cell (i := 0) (v := .int .i64 (ro : Int)) rfl
 have e1 := b1.cell (i := 1) (v := .int .i64 (no : Int)) rfl
 have HB := Lib.hid hb
 have hE : chdE false ro no = 0 := by simp [chdE, h]
 have hx : ∀ x ∈ [1, ro, no], x < 9223372036854775808 := by simp; omega
 have hbytes : (Rec.mk 1 ro no 0 []).bytes = uintsB [1, ro, no] := by simp [Rec.bytes, uintsB]
 have hlen : (uintsB [1, ro, no]).length ≤ 65536 := by have := uintsB_len [1, ro, no] (fun x hx' => by have := hx x hx'; omega); simp at this; omega
 rw [hbytes]
 clear hb b1 hbytes
 go_enter Tryz.func11, Tryz.ntmps11
 go_wp2_with (first
  | (go_at_call 64; refine (checked_any _ _ _ _).mono ?_; rw [hE]; rintro e w2 ⟨rfl, b2⟩; have q0 := bcell b2 e0; have q1 := bcell b2 e1; have HB2 := Lib.hid b2; clear b2)
  | (go_at_call 65; refine (newWriter_any w2.heap.size 3 [1, ro, no] _ (by simp) hx (by simp) (ints_new w2 [1, ro, no])).mono ?_; rintro e w3 ⟨p, v3, rfl, hW3, hp3, b3⟩; have HB3 := Lib.hid b3; clear b3)
  | (go_at_call 66; refine (done_yes p v3 _ _ hW3 hlen).mono ?_; rintro e w4 ⟨vo, rfl, ho, b4⟩; have HB4 := Lib.hid b4; clear b4))
 go_returns
 have B2 := bchain HB.out HB2.out
 have B3 := (B2.alloc B2.size _).trans (HB3.out.mono (by have := B2.size; simp; omega))
 exact ⟨_, rfl, World.ownsRow.mono ho B3.size, B3.trans (HB4.out.mono B3.size)⟩
end Go.Proofs.YtlfikhblmbidmaaGreatDoor
namespace Go.Proofs.YtlfikhblmbidmaaGreatDoor
open Go.RowKit Go.Maps
set_option maxRecDepth 100000 in
set_option maxHeartbeats 1000000 in
theorem choose_no (sl : Int) (s : ByteArray) (w : World) (h : ¬ (0 ≤ sl ∧ sl < 4096)) :
  Calls Tryz.prog 13 #[.int .i64 sl, .string s] w fun e w' => e = .returned (.tuple #[.slice none 0 0, .int .i64 2]) ∧ Below w.heap.size w w' := by
 have hI := isSlot_any sl
 rw [decide_eq_false h] at hI
 go_enter Tryz.func13, Tryz.ntmps13
 go_wp2_with (go_at_call 67; refine (hI _).mono ?_; rintro e w2 ⟨rfl, rfl⟩)
 go_returns
 exact ⟨rfl, Below.refl _ _⟩
theorem nw_other {w : World} {p : Nat} {v : Value} {bs : List UInt8} (h : WrAt w p v bs) (e : w.heap.size = p ∨ v.ownBlock = some w.heap.size) : False := by
 rcases e with e | e
 ·have := h.blk.lt; omega
 ·have := (h.row.lt _ e).2; omega
theorem after_text {w w3 w5 : World} {p : Nat} {v3 : Value} {bs : List UInt8} {o : Obj} (hp : w.heap.size + 1 ≤ p) (h : WrAt w3 p v3 bs) (B3 : Below w.heap.size w w3) (f : Fr (fun i => i = p ∨ v3.ownBlock = some i) (w3.alloc o) w5) : Below w.heap.size w w5 :=
 Fr.upB B3 (((Fr.refl _ w3).alloc o).trans f) (fun i e => by
  rcases e with e | e
  ·omega
  ·have := (h.row.lt i e).1
   omega)
def valB (xs : List Nat) (s : ByteArray) : List UInt8 := uintsB xs ++ textB s.data.toList
set_option maxRecDepth 100000 in
set_option maxHeartbeats 1000000 in
theorem choose_yes (sl : Nat) (s : ByteArray) (w : World) (h : sl < 4096) (hs : s.size ≤ 1000000) (hl : (valB [3, sl] s).length ≤ 65536) :
  Calls Tryz.prog 13 #[.int .i64 sl, .string s] w fun e w' => ∃ vo, e = .returned (.tuple #[vo, .int .i64 0]) ∧ w'.ownsRow w.heap.size 5 1 vo (valB [3, sl] s).length ((valB [3, sl] s).map u8V) ∧ Below w.heap.size w w' := by
 have hI := isSlot_any sl
 rw [decide_eq_true (show 0 ≤ (sl : Int) ∧ (sl : Int) < 4096 by omega)] at hI
 have hx : ∀ x ∈ [3, sl], x < 9223372036854775808 := by simp; omega
 have hul : (uintsB [3, sl]).length ≤ 100000000 := by have := uintsB_len [3, sl] (fun x hx' => by have := hx x hx'; omega); simp at this; omega
 go_enter Tryz.func13, Tryz.ntmps13
 go_wp2_with (first
  | (go_at_call 67; refine (hI _).mono ?_; rintro e w2 ⟨rfl, rfl⟩)
  | (go_at_call 65; refine (newWriter_any w.heap.size 2 [3, sl] _ (by simp) hx (by simp) (ints_new w [3, sl])).mono ?_; rintro e w3 ⟨p, v3, rfl, hW3, hp3, b3⟩; have HB3 := Lib.hid b3; have hW4 := hW3.fr ((Fr.refl S0 w3).alloc (.cells #[.pointer (some ⟨p, 0, none⟩)] 100)) (fun e => e) (fun i _ e => e); have hp4 := hW3.blk.lt; clear b3)
  | (go_at_call 68; refine (wtext_any p v3 _ s _ hW4 hul hs).mono ?_; rintro e w5 ⟨v5, rfl, hS5⟩; have q0 := ((Blk.new w3 100 #[.pointer (some ⟨p, 0, none⟩)]).fr hS5.fr (fun e => nw_other hW3 e)).cell (i := 0) (v := .pointer (some ⟨p, 0, none⟩)) rfl)
  | (go_at_call 66; refine (done_yes p v5 _ _ hS5.at_ hl).mono ?_; rintro e w6 ⟨vo, rfl, ho, b6⟩; have HB6 := Lib.hid b6; clear b6))
 go_returns
 have B3 : Below w.heap.size w w3 := ((Below.refl _ w).alloc (Nat.le_refl _) _).trans (HB3.out.mono (by simp))
 have B5 := after_text (by simpa using hp3) hW3 B3 hS5.fr
 exact ⟨_, rfl, World.ownsRow.mono ho B5.size, B5.trans (HB6.out.mono B5.size)⟩
end Go.Proofs.YtlfikhblmbidmaaGreatDoor
namespace Go.Proofs.YtlfikhblmbidmaaGreatDoor
open Go.RowKit Go.Maps
set_option maxRecDepth 100000 in
set_option maxHeartbeats 1000000 in
theorem sacc_no (r d sl : Int) (s : ByteArray) (w : World) (h : ¬ (okB r d = true ∧ 0 ≤ sl ∧ sl < 4096)) :
  Calls Tryz.prog 12 #[balV r d, .int .i64 sl, .string s] w fun e w' => e = .returned (.tuple #[.slice none 0 0, .int .i64 2]) ∧ Below w.heap.size w w' := by
 have hI := isSlot_any sl
 obtain ⟨is, his⟩ : ∃ is, decide (0 ≤ sl ∧ sl < 4096) = is := ⟨_, rfl⟩
 rw [his] at hI
 have hb := box_below w (.cells #[.int .i64 r, .int .i64 d] 24)
 have b1 := Blk.new w 24 #[.int .i64 r, .int .i64 d]
 have e0 := b1.cell (i := 0) (v := .int .i64 r) rfl
 have e1 := b1.cell (i := 1) (v := .int .i64 d) rfl
 have HB := Lib.hid hb
 have hE : chdE (!is) r d = 2 := by
  unfold chdE
  cases is with
  | false => rfl
  | true =>
   have := of_decide_eq_true his
   cases ho : okB r d with
   | false => rfl
   | true => exact absurd ⟨ho, this.1, this.2⟩ h
 clear hb b1
 go_enter Tryz.func12, Tryz.ntmps12
 go_wp2_with fail
 generalize (w.alloc (.cells #[.int .i64 r, .int .i64 d] 24)) = W1 at *
 go_region_held3 (fun W => W.cell? ⟨w.heap.size, 0, none⟩ = some (.int .i64 r) ∧ W.cell? ⟨w.heap.size, 1, none⟩ = some (.int .i64 d))
  (first | exact ⟨by assumption, by assumption⟩ | go_keep)
  (first
   | (go_at_call 67; refine (hI _).mono ?_; rintro e w2 ⟨rfl, rfl⟩)
   | (go_at_call 64; refine (checked_any _ _ _ _).mono ?_; rw [hE]; rintro e w2 ⟨rfl, b2⟩; have q0 := bcell b2 e0; have q1 := bcell b2 e1; have HB2 := Lib.hid b2; clear b2))
 go_wp2_with fail
 go_returns
 exact ⟨rfl, bchain HB.out ((Below.refl _ _).drew.trans (HB2.out.mono (by simp)))⟩
set_option maxRecDepth 100000 in
set_option maxHeartbeats 1000000 in
theorem sacc_yes (ro no sl : Nat) (s : ByteArray) (w : World) (h : okB ro no = true) (hsl : sl < 4096) (hs : s.size ≤ 1000000) (hl : (valB [2, ro, no, sl] s).length ≤ 65536) :
  Calls Tryz.prog 12 #[balV ro no, .int .i64 sl, .string s] w fun e w' => ∃ vo, e = .returned (.tuple #[vo, .int .i64 0]) ∧ w'.ownsRow w.heap.size 5 1 vo (valB [2, ro, no, sl] s).length ((valB [2, ro, no, sl] s).map u8V) ∧ Below w.heap.size w w' := by
 have hok := (okB_iff _ _).1 h
 have hI := isSlot_any sl
 rw [decide_eq_true (show 0 ≤ (sl : Int) ∧ (sl : Int) < 4096 by omega)] at hI
 have hx : ∀ x ∈ [2, ro, no, sl], x < 9223372036854775808 := by simp; omega
 have hul : (uintsB [2, ro, no, sl]).length ≤ 100000000 := by have := uintsB_len [2, ro, no, sl] (fun x hx' => by have := hx x hx'; omega); simp at this; omega
 have hb := box_below w (.cells #[.int .i64 (ro : Int), .int .i64 (no : Int)] 24)
 have b1 := Blk.new w 24 #[.int .i64 (ro : Int), .int .i64 (no : Int)]
 have e0 := b1.cell (i := 0) (v := .int .i64 (ro : Int)) rfl
 have e1 := b1.cell (i := 1) (v := .int .i64 (no : Int)) rfl
 have HB := Lib.hid hb
 have hE : chdE false ro no = 0 := by simp [chdE, h]
 clear hb b1
 go_enter Tryz.func12, Tryz.ntmps12
 go_wp2_with fail
 generalize (w.alloc (.cells #[.int .i64 (ro : Int), .int .i64 (no : Int)] 24)) = W1 at *
 go_region_held3 (fun W => W.cell? ⟨w.heap.size, 0, none⟩ = some (.int .i64 (ro : Int)) ∧ W.cell? ⟨w.heap.size, 1, none⟩ = some (.int .i64 (no : Int)))
  (first | exact ⟨by assumption, by assumption⟩ | go_keep)
  (first
   | (go_at_call 67; refine (hI _).mono ?_; rintro e w2 ⟨rfl, rfl⟩)
   | (go_at_call 64; refine (checked_any _ _ _ _).mono ?_; rw [hE]; rintro e w2 ⟨rfl, b2⟩; have q0 := bcell b2 e0; have q1 := bcell b2 e1; have HB2 := Lib.hid b2; clear b2))
 go_wp2_with (first
  | (go_at_call 65; refine (newWriter_any w2.heap.size 4 [2, ro, no, sl] _ (by simp) hx (by simp) (ints_new w2 [2, ro, no, sl])).mono ?_; rintro e w3 ⟨p, v3, rfl, hW3, hp3, b3⟩; have HB3 := Lib.hid b3; have hW4 := hW3.fr ((Fr.refl S0 w3).alloc (.cells #[.pointer (some ⟨p, 0, none⟩)] 100)) (fun e => e) (fun i _ e => e); have hp4 := hW3.blk.lt; clear b3)
  | (go_at_call 68; refine (wtext_any p v3 _ s _ hW4 hul hs).mono ?_; rintro e w5 ⟨v5, rfl, hS5⟩; have q5 := ((Blk.new w3 100 #[.pointer (some ⟨p, 0, none⟩)]).fr hS5.fr (fun e => nw_other hW3 e)).cell (i := 0) (v := .pointer (some ⟨p, 0, none⟩)) rfl)
  | (go_at_call 66; refine (done_yes p v5 _ _ hS5.at_ hl).mono ?_; rintro e w6 ⟨vo, rfl, ho, b6⟩; have HB6 := Lib.hid b6; clear b6))
 go_returns
 have B2 := bchain HB.out ((Below.refl _ _).drew.trans (HB2.out.mono (by simp)))
 have B3 : Below w.heap.size w w3 := (B2.alloc B2.size _).trans (HB3.out.mono (by have := B2.size; simp; omega))
 have B5 := after_text (by have := B2.size; simp at hp3; omega) hW3 B3 hS5.fr
 exact ⟨_, rfl, World.ownsRow.mono ho B5.size, B5.trans (HB6.out.mono B5.size)⟩
end Go.Proofs.YtlfikhblmbidmaaGreatDoor