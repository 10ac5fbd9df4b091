/- Package clock: the table in memory; New, valid, Set, Stop, Left, Now, Len. -/
import Derived.Test.YtmojdafegljghaaFrame
set_option linter.unusedVariables false
set_option linter.unusedSimpArgs false
namespace Go.Proofs.Ytmojdafegljghaa
open Go.RowKit Go.Maps

/-- The ends as values. -/
def enc (L : List (Int × Int)) : List (Int × Value) := L.map fun p => (p.1, .int .i64 p.2)
theorem enc_length (L : List (Int × Int)) : (enc L).length = L.length := by simp [enc]
theorem get_enc (k : Int) : ∀ L : List (Int × Int), get k (enc L) = (get k L).map (Value.int .i64)
  | [] => rfl
  | y :: r => by
    have ih := get_enc k r
    simp only [get, enc, List.map_cons, List.find?_cons] at ih ⊢
    by_cases e : y.1 = k
    · simp [e]
    · have e2 : (y.1 == k) = false := by simpa using e
      rw [e2]
      exact ih
theorem del_enc (k : Int) (L : List (Int × Int)) : del k (enc L) = enc (del k L) := by
  unfold del enc
  rw [List.filter_map]
  rfl
theorem insS_enc (x : Int × Int) : ∀ L : List (Int × Int), insS (x.1, Value.int .i64 x.2) (enc L) = enc (insS x L)
  | [] => rfl
  | y :: r => by
    have ih := insS_enc x r
    simp only [enc, List.map_cons, insS] at ih ⊢
    split
    · rfl
    · simp only [List.map_cons]; rw [ih]
theorem put_enc (k v : Int) (L : List (Int × Int)) : put k (Value.int .i64 v) (enc L) = enc (put k v L) := by
  unfold put
  rw [del_enc, insS_enc (k, v)]

/-- What a table is: the time, the ends by their ids. -/
structure Good (now : Int) (L : List (Int × Int)) : Prop where
  lo : 0 ≤ now
  hi : now ≤ 1000000
  len : L.length ≤ 1000
  srt : Srt L
  ids : ∀ p ∈ L, -9223372036854775808 ≤ p.1 ∧ p.1 ≤ 9223372036854775807
  ends : ∀ p ∈ L, now < p.2 ∧ p.2 ≤ now + 1000000

/-- The table at the block p, its map at the block m. -/
structure TabAt (w : World) (p m : Nat) (now : Int) (L : List (Int × Int)) : Prop where
  blk : Blk w p 48 #[.int .i64 now, .map (some m)]
  map : MapIs Try.prog 3 w m (enc L)

namespace TabAt
variable {w w' : World} {p m : Nat} {now : Int} {L : List (Int × Int)}
theorem ne (h : TabAt w p m now L) : p ≠ m := by
  obtain ⟨es, c, hm⟩ := h.map.block
  exact h.blk.ne_map hm
theorem fr {S : Nat → Prop} (h : TabAt w p m now L) (k : Fr S w w') (hp : ¬ S p) (hm : ¬ S m) : TabAt w' p m now L := ⟨h.blk.fr k hp, h.map.of_block (k.block m h.map.lt hm)⟩
theorem drewN (h : TabAt w p m now L) (n : Nat) : TabAt (w.drewN n) p m now L := ⟨h.blk, h.map⟩
theorem drew (h : TabAt w p m now L) : TabAt w.drew p m now L := ⟨h.blk, h.map⟩
theorem alloc (h : TabAt w p m now L) (o : Obj) : TabAt (w.alloc o) p m now L := ⟨h.blk.alloc o, h.map.of_block (Below.heap_alloc w o m h.map.lt)⟩
theorem c0 (h : TabAt w p m now L) : w.cell? ⟨p, 0, none⟩ = some (.int .i64 now) := h.blk.cell rfl
theorem c1 (h : TabAt w p m now L) : w.cell? ⟨p, 1, none⟩ = some (.map (some m)) := h.blk.cell rfl
end TabAt

theorem wf64 {n : Int} (h : -9223372036854775808 ≤ n ∧ n ≤ 9223372036854775807) : (Lit.int .i64 n).wf = true := WalkArith.wf_i64 h
theorem zero64 (w : World) : (zeroValue 2).run Try.prog w = .ok (.int .i64 0) w := by kernel_rfl

theorem tvalid (p m : Nat) (w : World) (h1 : w.cell? ⟨p, 1, none⟩ = some (.map (some m))) :
    Calls Try.prog 28 #[.pointer (some ⟨p, 0, none⟩)] w fun e w' => e = .returned (.bool true) ∧ w = w' := by
  have hm := fun (w : World) => run_neq_map_nil (P := Try.prog) w 46 _ _ (some m) Try.underlying46
  go_enter Try.func28, Try.ntmps28
  go_wp2
  go_ret
  exact ⟨rfl, rfl⟩
theorem tvalid_nil (w : World) :
    Calls Try.prog 28 #[.pointer none] w fun e w' => e = .returned (.bool false) ∧ w = w' := by
  go_enter Try.func28, Try.ntmps28
  go_wp2
  go_ret
  exact ⟨rfl, rfl⟩
theorem tvalid_zero (p : Nat) (w : World) (h1 : w.cell? ⟨p, 1, none⟩ = some (.map none)) :
    Calls Try.prog 28 #[.pointer (some ⟨p, 0, none⟩)] w fun e w' => e = .returned (.bool false) ∧ w = w' := by
  have hm := fun (w : World) => run_neq_map_nil (P := Try.prog) w 46 _ _ none Try.underlying46
  go_enter Try.func28, Try.ntmps28
  go_wp2
  go_ret
  exact ⟨rfl, rfl⟩

theorem new_any (w : World) : Calls Try.prog 11 #[] w fun e w' => ∃ p m, e = .returned (.pointer (some ⟨p, 0, none⟩)) ∧ TabAt w' p m 0 [] ∧ w.heap.size ≤ p ∧ w.heap.size ≤ m ∧ Below w.heap.size w w' := by
  have hmm := @run_makeMap Try.prog
  go_enter Try.func11, Try.ntmps11
  go_wp2
  go_ret
  refine ⟨w.heap.size + 1, w.heap.size, rfl, ⟨?_, (MapIs.made w _ _).of_block (Below.heap_alloc _ _ _ (by simp))⟩, by omega, Nat.le_refl _, ((Below.refl _ _).alloc (Nat.le_refl _) _).alloc (by simp) _⟩
  have := Blk.new (w.alloc (.map #[] 0)) 48 #[.int .i64 0, .map (some w.heap.size)]
  rwa [World.size_alloc] at this

set_option maxHeartbeats 400000 in
theorem set_yes (p m : Nat) (id ticks now : Int) (L : List (Int × Int)) (w : World) (h : TabAt w p m now L) (hg : Good now L) (hid : -9223372036854775808 ≤ id ∧ id ≤ 9223372036854775807) (t1 : 1 ≤ ticks) (t2 : ticks ≤ 1000000) :
    Calls Try.prog 12 #[.pointer (some ⟨p, 0, none⟩), .int .i64 id, .int .i64 ticks] w fun e w' => e = .returned (.int .i64 0) ∧ TabAt w' p m now (put id (now + ticks) L) ∧ Fr (S1 m) w w' := by
  have c0 := h.c0
  have c1 := h.c1
  obtain ⟨n1, n2, n3, _, _, _⟩ := hg
  have HT := Lib.hid h
  clear h
  go_enter Try.func12, Try.ntmps12
  go_wp2_with (go_at_call 28; refine (tvalid p m _ c1).mono ?_; rintro e w' ⟨rfl, rfl⟩)
  have hs : IntKind.i64.wrap (now + ticks) = now + ticks := IntWalk.i64_in _ (by omega)
  go_still_tail 11, (by kernel_rfl)
  refine wpList_upd _ rfl _ _ _ 46 rfl 3 2 Try.underlying3 Try.underlying46 m (enc L) rfl HT.out.drew.map (by rw [enc_length]; omega) id (.int .i64 (now + ticks)) rfl rfl (wf64 hid) ?_
  rintro w2 hm2 hg2
  rw [put_enc] at hm2
  have HM := Lib.hid hm2
  clear hm2
  go_wp2
  go_ret
  have hf : Fr (S1 m) w w2 := Fr.of_drew (Fr.of_grown hg2 (fun i e => by cases e; rfl))
  exact ⟨rfl, ⟨HT.out.blk.fr hf HT.out.ne, HM.out⟩, hf⟩

theorem set_bad (p m : Nat) (id ticks now : Int) (L : List (Int × Int)) (w : World) (h : TabAt w p m now L) (ht : ticks < 1 ∨ 1000000 < ticks) :
    Calls Try.prog 12 #[.pointer (some ⟨p, 0, none⟩), .int .i64 id, .int .i64 ticks] w fun e w' => e = .returned (.int .i64 2) ∧ w = w' := by
  have c1 := h.c1
  clear h
  by_cases h1 : ticks < 1
  · clear ht
    go_enter Try.func12, Try.ntmps12
    go_wp2_with (go_at_call 28; refine (tvalid p m _ c1).mono ?_; rintro e w' ⟨rfl, rfl⟩)
    go_ret
    exact ⟨rfl, rfl⟩
  · have h2 : 1000000 < ticks := by omega
    have h3 : decide (ticks < 1) = false := by simpa using h1
    clear ht h1
    go_enter Try.func12, Try.ntmps12
    go_wp2_with (go_at_call 28; refine (tvalid p m _ c1).mono ?_; rintro e w' ⟨rfl, rfl⟩)
    go_ret
    exact ⟨rfl, rfl⟩

set_option maxHeartbeats 400000 in
theorem stop_any (p m : Nat) (id now : Int) (L : List (Int × Int)) (w : World) (h : TabAt w p m now L) (hid : -9223372036854775808 ≤ id ∧ id ≤ 9223372036854775807) :
    Calls Try.prog 17 #[.pointer (some ⟨p, 0, none⟩), .int .i64 id] w fun e w' => e = .returned (.bool (get id L).isSome) ∧ TabAt w' p m now (del id L) ∧ Fr (S1 m) w w' := by
  have c1 := h.c1
  have HT := Lib.hid h
  clear h
  go_enter Try.func17, Try.ntmps17
  go_wp2_with (first
    | (go_at_call 28; refine (tvalid p m _ c1).mono ?_; rintro e w' ⟨rfl, rfl⟩)
    | (at_lookup; refine wpList_look _ rfl _ _ 46 rfl 3 2 Try.underlying3 Try.underlying46 (.int .i64 0) (zero64 _) m (enc L) rfl HT.out.map id rfl (wf64 hid) ?_)
    | (at_delete; refine wpList_del _ rfl _ _ 46 3 rfl 2 Try.underlying3 Try.underlying46 m (enc L) rfl HT.out.map id rfl (wf64 hid) ?_; rintro w2 hm2 hg2 hs2))
  go_ret
  rw [del_enc] at hm2
  have hf : Fr (S1 m) w w2 := Fr.of_grown hg2 (fun i e => by cases e; rfl)
  refine ⟨?_, ⟨HT.out.blk.fr hf HT.out.ne, hm2⟩, hf⟩
  rw [get_enc]
  exact ret_bool (by simp)

def leftV (id now : Int) (L : List (Int × Int)) : Int := match get id L with | some e => e - now | none => 0

set_option maxHeartbeats 400000 in
theorem left_any (p m : Nat) (id now : Int) (L : List (Int × Int)) (w : World) (h : TabAt w p m now L) (hg : Good now L) (hid : -9223372036854775808 ≤ id ∧ id ≤ 9223372036854775807) :
    Calls Try.prog 14 #[.pointer (some ⟨p, 0, none⟩), .int .i64 id] w fun e w' => e = .returned (.tuple #[.int .i64 (leftV id now L), .bool (get id L).isSome]) ∧ w = w' := by
  have c0 := h.c0
  have c1 := h.c1
  have HT := Lib.hid h
  clear h
  unfold leftV
  cases hq : get id L with
  | none =>
    have hq2 : get id (enc L) = none := by rw [get_enc, hq]; rfl
    clear hq
    go_enter Try.func14, Try.ntmps14
    go_wp2_with (first
      | (go_at_call 28; refine (tvalid p m _ c1).mono ?_; rintro e w' ⟨rfl, rfl⟩)
      | (at_lookup; refine wpList_look _ rfl _ _ 46 rfl 3 2 Try.underlying3 Try.underlying46 (.int .i64 0) (zero64 _) m (enc L) rfl HT.out.map id rfl (wf64 hid) ?_))
    go_ret2
    exact ⟨rfl, rfl⟩
  | some e =>
    have hq2 : get id (enc L) = some (.int .i64 e) := by rw [get_enc, hq]; rfl
    obtain ⟨g1, g2⟩ := hg.ends _ (get_mem hq)
    have g3 := hg.lo
    have g4 := hg.hi
    simp only at g1 g2
    clear hq hg
    go_enter Try.func14, Try.ntmps14
    go_wp2_with (first
      | (go_at_call 28; refine (tvalid p m _ c1).mono ?_; rintro e w' ⟨rfl, rfl⟩)
      | (at_lookup; refine wpList_look _ rfl _ _ 46 rfl 3 2 Try.underlying3 Try.underlying46 (.int .i64 0) (zero64 _) m (enc L) rfl HT.out.map id rfl (wf64 hid) ?_))
    go_ret2
    exact ⟨rfl, rfl⟩

theorem now_any (p m : Nat) (now : Int) (L : List (Int × Int)) (w : World) (h : TabAt w p m now L) :
    Calls Try.prog 15 #[.pointer (some ⟨p, 0, none⟩)] w fun e w' => e = .returned (.int .i64 now) ∧ w = w' := by
  have c0 := h.c0
  have c1 := h.c1
  clear h
  go_enter Try.func15, Try.ntmps15
  go_wp2_with (go_at_call 28; refine (tvalid p m _ c1).mono ?_; rintro e w' ⟨rfl, rfl⟩)
  go_ret
  exact ⟨rfl, rfl⟩

theorem len_any (p m : Nat) (now : Int) (L : List (Int × Int)) (w : World) (h : TabAt w p m now L) :
    Calls Try.prog 16 #[.pointer (some ⟨p, 0, none⟩)] w fun e w' => e = .returned (.int .i64 (L.length : Int)) ∧ w = w' := by
  have c1 := h.c1
  have HT := Lib.hid h
  clear h
  go_enter Try.func16, Try.ntmps16
  go_wp2_with (first
    | (go_at_call 28; refine (tvalid p m _ c1).mono ?_; rintro e w' ⟨rfl, rfl⟩)
    | (at_len; refine wpList_mlen _ rfl _ 46 rfl 3 2 Try.underlying46 m (enc L) rfl HT.out.map ?_))
  go_ret
  rw [enc_length]
  exact ⟨rfl, rfl⟩
end Go.Proofs.Ytmojdafegljghaa
