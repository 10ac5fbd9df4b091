/- Package learn: put, Learn; the states. -/
import Derived.Test.YtnnadpbfidfhoaaLearnC
import Derived.Deep.DeepCutAuto
import Derived.Deep.CutBlock
set_option linter.unusedVariables false
set_option linter.unusedSimpArgs false
namespace Go.Proofs.Ytnnadpbfidfhoaa
open Go.RowKit Go.Maps Go.Shelf

theorem toList_inj {a b : ByteArray} (h : a.toList = b.toList) : a = b := by
  rw [ByteArray.toList_eq, ByteArray.toList_eq] at h
  obtain ⟨⟨x⟩⟩ := a
  obtain ⟨⟨y⟩⟩ := b
  simp at h
  rw [h]
theorem str_eq (a b : ByteArray) : (a.toList == b.toList) = decide (a = b) := by
  by_cases h : a = b
  · subst h; simp
  · rw [decide_eq_false h, Bool.eq_false_iff]
    intro h2
    exact h (toList_inj (by simpa using h2))
abbrev knCells (e : Kn) : Array Value := #[.bool e.c, .string e.v, .int .i64 e.r, .int .i64 e.d, .string e.vote, .int .u64 (e.set : Int)]

theorem kin_put {L : KL} {k : Int} {e : Kn} (h : KIn L) (hk : 0 ≤ k ∧ k < 4096) : KIn (put k e L) := fun q hq => by
  rcases mem_put.1 hq with rfl | ⟨h1, _⟩
  · exact hk
  · exact h q h1

set_option maxRecDepth 100000 in
set_option maxHeartbeats 2000000 in
theorem put_any (p m : Nat) (n base u : Int) (L : KL) (k : Int) (e : Kn) (w : World) (h : LAt w p m n base u L) (hu : 0 ≤ u ∧ u ≤ 4096) (hL : KIn L) (hk : 0 ≤ k ∧ k < 4096) (hlen : L.length < 1000000000) :
    Calls Try.prog 35 #[.pointer (some ⟨p, 0, none⟩), .int .i64 k, .agg (knCells e)] w fun e1 w' => e1 = .returned (.tuple #[]) ∧ ∃ u', Climbs (put k e L) u u' ∧ u' ≤ 4096 ∧ LAt w' p m n base u' (put k e L) ∧ Fr (S2 p m) w w' := by
  obtain ⟨kc, kv, kr, kd, kvo, ks⟩ := e
  show Calls Try.prog 35 #[.pointer (some ⟨p, 0, none⟩), .int .i64 k, .agg #[.bool kc, .string kv, .int .i64 kr, .int .i64 kd, .string kvo, .int .u64 (ks : Int)]] w _
  have hb := box_below w (.cells #[.bool kc, .string kv, .int .i64 kr, .int .i64 kd, .string kvo, .int .u64 (ks : Int)] 77)
  have HT := Lib.hid (h.below hb)
  have HB := Lib.hid hb
  have c3 := (h.below hb).c3
  have hlt := h.lt
  have b1 := Blk.new w 77 #[.bool kc, .string kv, .int .i64 kr, .int .i64 kd, .string kvo, .int .u64 (ks : Int)]
  have e0 := b1.cell (i := 0) (v := .bool kc) rfl
  have e1 := b1.cell (i := 1) (v := .string kv) rfl
  have e2 := b1.cell (i := 2) (v := .int .i64 kr) rfl
  have e3 := b1.cell (i := 3) (v := .int .i64 kd) rfl
  have e4 := b1.cell (i := 4) (v := .string kvo) rfl
  have e5 := b1.cell (i := 5) (v := .int .u64 (ks : Int)) rfl
  have HL := Lib.hid hL
  clear h hb b1 hL
  go_enter Try.func35, Try.ntmps35
  go_wp2_with fail
  generalize (w.alloc (.cells #[.bool kc, .string kv, .int .i64 kr, .int .i64 kd, .string kvo, .int .u64 (ks : Int)] 77)) = W1 at *
  go_still_tail 6, (by kernel_rfl)
  refine wpList_upd _ rfl _ _ _ 63 rfl 3 77 Try.underlying3 Try.underlying63 m (encF knV L) rfl HT.out.drew.map (by rw [encF_length]; omega) k (knV k ⟨kc, kv, kr, kd, kvo, ks⟩) rfl rfl (wf64 (by omega)) ?_
  rintro w5 hm5 hg5
  rw [put_encF knV k ⟨kc, kv, kr, kd, kvo, ks⟩] at hm5
  have hf : Fr (S1 m) W1 w5 := Fr.of_drew (Fr.of_grown hg5 (fun i e => by cases e; rfl))
  have T5 : Hid (LAt w5 p m n base u (put k ⟨kc, kv, kr, kd, kvo, ks⟩ L)) := ⟨HT.out.blk.fr hf HT.out.ne, hm5⟩
  have F5 := Lib.hid hf
  clear hm5 hf hg5
  go_wp2_with (go_at_call 37; refine (climb_any p m n base u _ _ T5.out hu (kin_put HL.out hk)).mono ?_; rintro e w6 ⟨rfl, u', h1, h2, h3, h4⟩)
  go_returns
  exact ⟨rfl, u', h1, h2, h3, ((Fr.of_below HB.out).trans (F5.out.mono (fun i e => .inr e))).trans (h4.mono (fun i e => .inl e))⟩

theorem srt_lenG {β : Type} {lo hi : Int} : ∀ {L : List (Int × β)}, Srt L → (∀ p ∈ L, lo ≤ p.1 ∧ p.1 < hi) → L = [] ∨ (L.length : Int) ≤ hi - lo
  | [], _, _ => .inl rfl
  | x :: r, h, hb => by
    right
    have h1 := List.pairwise_cons.1 h
    have hx := hb x (by simp)
    have ih := srt_lenG (lo := x.1 + 1) (hi := hi) h1.2 (fun p hp => ⟨by have := h1.1 p hp; omega, (hb p (by simp [hp])).2⟩)
    rcases ih with rfl | ih
    · simp; omega
    · simp; omega

/-! ### States -/
structure LSt where
  n : Nat
  base : Int
  L : KL
structure LGood (s : LSt) : Prop where
  n : 1 ≤ s.n ∧ s.n ≤ 7
  base : 0 ≤ s.base ∧ s.base ≤ 4096
  srt : Srt s.L
  slots : ∀ q ∈ s.L, s.base ≤ q.1 ∧ q.1 < 4096
  len : s.L.length ≤ 4096
  sets : ∀ q ∈ s.L, q.2.set < 2 ^ s.n
  none0 : ∀ q ∈ s.L, q.2.c = false → q.2.v = ⟨#[]⟩
structure LS (w : World) (p m : Nat) (s : LSt) : Prop where
  at_ : ∃ u, LAt w p m s.n s.base u s.L ∧ Climbs s.L s.base u ∧ u ≤ 4096
  good : LGood s
namespace LS
variable {w w' : World} {p m : Nat} {s : LSt}
theorem fr {S : Nat → Prop} (h : LS w p m s) (k : Fr S w w') (hp : ¬ S p) (hm : ¬ S m) : LS w' p m s := by
  obtain ⟨⟨u, h1, h2⟩, hg⟩ := h
  exact ⟨⟨u, h1.fr k hp hm, h2⟩, hg⟩
theorem below (h : LS w p m s) (k : Below w.heap.size w w') : LS w' p m s := by
  obtain ⟨⟨u, h1, h2⟩, hg⟩ := h
  exact ⟨⟨u, h1.below k, h2⟩, hg⟩
theorem drew (h : LS w p m s) : LS w.drew p m s := h.below ((Below.refl _ _).drew)
theorem lt (h : LS w p m s) : p < w.heap.size ∧ m < w.heap.size := by
  obtain ⟨⟨u, h1, h2⟩, hg⟩ := h
  exact h1.lt
theorem npos (h : LS w p m s) : (0 : Int) < s.n := by have := h.good.n; omega
end LS
namespace LGood
variable {s : LSt}
theorem kin (h : LGood s) : KIn s.L := fun q hq => by have := h.slots q hq; have := h.base; omega
theorem kset (h : LGood s) (k : Int) : (kget k s.L).set < 2 ^ s.n := by
  unfold kget
  cases hg : get k s.L with
  | none => exact Nat.pow_pos (by decide)
  | some e => exact h.sets _ (get_mem hg)
theorem puts (h : LGood s) {k : Int} {e : Kn} (hk : s.base ≤ k ∧ k < 4096) (he : e.set < 2 ^ s.n) (hv : e.c = false → e.v = ⟨#[]⟩) : LGood { s with L := put k e s.L } := by
  have hs := srt_put (k := k) (v := e) h.srt
  have hsl : ∀ q ∈ put k e s.L, s.base ≤ q.1 ∧ q.1 < 4096 := fun q hq => by
    rcases mem_put.1 hq with rfl | ⟨hq, _⟩
    · exact hk
    · exact h.slots q hq
  refine ⟨h.n, h.base, hs, hsl, ?_, fun q hq => ?_, fun q hq => ?_⟩
  · have hb := h.base
    rcases srt_lenG (lo := 0) (hi := 4096) hs (fun q hq => ⟨by have := hsl q hq; omega, (hsl q hq).2⟩) with e1 | e1
    · simp only; rw [e1]; simp
    · simp only; omega
  · rcases mem_put.1 hq with rfl | ⟨hq, _⟩
    · exact he
    · exact h.sets q hq
  · rcases mem_put.1 hq with rfl | ⟨hq, _⟩
    · exact hv
    · exact h.none0 q hq
end LGood
theorem kget_put {k j : Int} {e : Kn} {L : KL} (h : Srt L) : kget j (put k e L) = if j = k then e else kget j L := by
  unfold kget
  by_cases hj : j = k
  · subst hj; rw [if_pos rfl, get_put_same h]; rfl
  · rw [if_neg hj, get_put_other h hj]
end Go.Proofs.Ytnnadpbfidfhoaa
