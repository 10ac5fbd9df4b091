/- Plain laws on the acceptor's states. -/
import Derived.Test.YtnbiihnfggcakaaAccW
set_option linter.unusedVariables false
set_option linter.unusedSimpArgs false
namespace Go.Proofs.Ytnbiihnfggcakaa
open Go.RowKit Go.Maps Go.Shelf

theorem stepS_n (s : ASt) (x : Stp) : (stepS s x).n = s.n := by
  unfold stepS prS acS foS
  split
  · split <;> rfl
  · split
    · split <;> rfl
    · split
      · split <;> rfl
      · rfl
theorem foldl_n : ∀ (l : List Stp) (s : ASt), (l.foldl stepS s).n = s.n
  | [], s => rfl
  | x :: r, s => by rw [List.foldl_cons, foldl_n r, stepS_n]
theorem fillS_n (l : List Stp) : (fillS l).n = 3 := foldl_n l (newS 3)

theorem foE_ok {k : Int} (h : 0 ≤ k ∧ k ≤ 4096) : foE k = 0 := by unfold foE; rw [if_neg (by omega)]
theorem foS_base {s : ASt} {k : Int} (h : 0 ≤ k ∧ k ≤ 4096) : (foS s k).base = max s.base k := by unfold foS; rw [if_pos (foE_ok h)]
theorem foS_L {s : ASt} {k : Int} (h : 0 ≤ k ∧ k ≤ 4096) : (foS s k).L = forL k s.L := by unfold foS; rw [if_pos (foE_ok h)]
theorem foS_r (s : ASt) (k : Int) : (foS s k).r = s.r := by unfold foS; split <;> rfl
theorem foS_d (s : ASt) (k : Int) : (foS s k).d = s.d := by unfold foS; split <;> rfl
theorem foS_n (s : ASt) (k : Int) : (foS s k).n = s.n := by unfold foS; split <;> rfl
theorem list_forL {s : ASt} (h : AGood s) (k : Int) : listL 0 (forL k s.L) = listL (max k s.base) s.L := by
  unfold listL forL
  rw [List.filter_filter]
  refine List.filter_congr fun p hp => ?_
  have h1 := h.slots p hp
  have h2 := h.base
  by_cases hk : p.1 < k
  · simp [hk]; omega
  · simp [hk]; omega
theorem list_len {s : ASt} (h : AGood s) {k : Int} : (listL k s.L).length ≤ 1000000000 := by
  have h1 := h.len
  have h2 := List.length_filter_le (fun p : Int × Ent => decide (k ≤ p.1)) s.L
  unfold listL
  omega
theorem acS_same {s : ASt} {r1 d1 k e : Int} {v : ByteArray} (h : acE s r1 d1 k v = e) (he : e ≠ 0) : acS s r1 d1 k v = s := by unfold acS; rw [if_neg (by rw [h]; exact he)]
/-- The greatest ballot of three nodes. -/
theorem le_top {s : ASt} (h : AGood s) (hn : s.n = 3) : leBal (s.r, s.d) (1073741824, 2) := by
  rw [leBal_iff]
  simp only
  rcases h.pos with hp | ⟨h1, h2⟩
  · unfold goodB chkE at hp
    rw [hn] at hp
    simp only [Bool.and_eq_true, beq_iff_eq] at hp
    obtain ⟨_, hp⟩ := hp
    split at hp
    · simp at hp
    · split at hp
      · rename_i h3; obtain ⟨h3, h4⟩ := h3; omega
      · split at hp
        · simp at hp
        · omega
  · omega
theorem get_below {s : ASt} (h : AGood s) {k : Int} (hk : k < s.base) : get k s.L = none := by
  rw [get_none]
  intro p hp e
  have := (h.slots p hp).1
  omega
theorem accE_below {s : ASt} (h : AGood s) (hn : s.n = 3) (hb : 1 ≤ s.base) (v : ByteArray) (hv : v.size ≤ 65536) : acE s 1073741824 2 (s.base - 1) v = 3 := by
  have h1 := h.base
  unfold acE accE
  rw [if_neg (by rw [hn]; simp [show goodB 3 1073741824 2 = true by decide]; omega), if_neg (by omega), if_neg (not_lt_of_le (le_top h hn)), if_pos (by omega)]
theorem accdV_none {k : Int} {L : EL} (h : get k L = none) : accdV k L = .tuple #[entV 0 (0, 0, ⟨#[]⟩), .bool false] := by unfold accdV; rw [h]; rfl
theorem accdV_some {k : Int} {L : EL} {e : Ent} (h : get k L = some e) : accdV k L = .tuple #[entV k e, .bool true] := by unfold accdV; rw [h]; rfl
theorem entries_yes (v1 v2 : Value) (lo1 lo2 : Nat) (xs ys : EL) (w : World) (h1 : EntRow w lo1 v1 xs) (h2 : EntRow w lo2 v2 ys) (hl : xs.length ≤ 1000000000) (he : xs = ys) :
    Calls Try.prog 36 #[v1, v2] w fun e w' => e = .returned (.bool true) ∧ Below w.heap.size w w' :=
  (entries_any v1 v2 lo1 lo2 xs ys w h1 h2 hl).mono fun _ _ ⟨h, k⟩ => ⟨by rw [h, decide_eq_true he], k⟩
theorem Blk.bel {w w' : World} {b : Nat} {t : TypeId} {cs : Array Value} (h : Blk w b t cs) (k : Below w.heap.size w w') : Blk w' b t cs := h.fr (Fr.of_below k : Fr S0 w w') (fun h => h)

section
variable {s : ASt} {b1 b2 c1 c2 k : Int} {v : ByteArray}
abbrev withB (s : ASt) (b1 b2 : Int) : ASt := ⟨s.n, b1, b2, s.base, s.L⟩
theorem prS_ok (h : prE s b1 b2 k = 0) : prS s b1 b2 k = withB s b1 b2 := by unfold prS; rw [if_pos h]
theorem prL_ok (h : prE s b1 b2 k = 0) : prL s b1 b2 k = listL k s.L := by unfold prL; rw [if_pos h]
theorem prS_no (h : prE s b1 b2 k ≠ 0) : prS s b1 b2 k = s := by unfold prS; rw [if_neg h]
theorem prL_no (h : prE s b1 b2 k ≠ 0) : prL s b1 b2 k = [] := by unfold prL; rw [if_neg h]
theorem acS_ok (h : acE s b1 b2 k v = 0) : acS s b1 b2 k v = ⟨s.n, b1, b2, s.base, put k (b1, b2, v) s.L⟩ := by unfold acS; rw [if_pos h]
theorem acS_no (h : acE s b1 b2 k v ≠ 0) : acS s b1 b2 k v = s := by unfold acS; rw [if_neg h]
theorem prE_again (h : prE s b1 b2 k = 0) : prE (withB s b1 b2) b1 b2 0 = 0 := by
  obtain ⟨h1, _, _, _⟩ := promE_zero.1 h
  exact promE_zero.2 ⟨h1, by omega, by omega, leBal_refl _⟩
theorem prE_lower (h : ordB (c1, c2) (b1, b2) < 0) (hr : s.r = b1) (hd : s.d = b2) : prE s c1 c2 k ≠ 0 := fun e => by
  obtain ⟨_, _, _, h4⟩ := promE_zero.1 e
  rw [hr, hd] at h4
  exact not_lt_of_le h4 h
theorem acE_lower (h : ordB (c1, c2) (b1, b2) < 0) (hr : s.r = b1) (hd : s.d = b2) : acE s c1 c2 k v ≠ 0 := fun e => by
  obtain ⟨_, _, _, _, h5, _⟩ := accE_zero.1 e
  rw [hr, hd] at h5
  exact not_lt_of_le h5 h
theorem acE_forgot (hg : goodB s.n b1 b2 = true) (hk : 0 ≤ k ∧ k < 4096) (hv : v.size ≤ 65536) (hb : k < s.base) : acE (withB s b1 b2) b1 b2 k v = 3 := by
  unfold acE accE
  rw [if_neg (by simp only; rw [hg]; simp; omega), if_neg (by omega), if_neg (not_lt_of_le (leBal_refl _)), if_pos hb]
theorem acE_there (hg : goodB s.n b1 b2 = true) (hk : 0 ≤ k ∧ k < 4096) (hv : v.size ≤ 65536) (hb : s.base ≤ k) : acE (withB s b1 b2) b1 b2 k v = 0 :=
  accE_zero.2 ⟨hg, hk.1, hk.2, hv, leBal_refl _, hb⟩
theorem prS_again (h : prE (withB s b1 b2) b1 b2 k = 0) : prS (withB s b1 b2) b1 b2 k = withB s b1 b2 := prS_ok h
theorem prL_again (h : prE (withB s b1 b2) b1 b2 k = 0) : prL (withB s b1 b2) b1 b2 k = listL k s.L := prL_ok h
theorem good_of_prE (h : prE s b1 b2 k = 0) : goodB s.n b1 b2 = true := (promE_zero.1 h).1
theorem get_acS (hs : Srt s.L) (h : acE s b1 b2 k v = 0) : get k (acS s b1 b2 k v).L = some (b1, b2, v) := by rw [acS_ok h]; exact get_put_same hs
theorem del_put {β : Type} {k : Int} {v : β} {L : List (Int × β)} (h : Srt L) : del k (put k v L) = del k L := by
  refine srt_ext (srt_del (srt_put h)) (srt_del h) fun p => ?_
  rw [mem_del, mem_put, mem_del]
  constructor
  · rintro ⟨rfl | ⟨h1, h2⟩, h3⟩
    · exact absurd rfl h3
    · exact ⟨h1, h3⟩
  · rintro ⟨h1, h2⟩
    exact ⟨.inr ⟨h1, h2⟩, h2⟩
theorem del_len {β : Type} {k : Int} : ∀ {L : List (Int × β)}, Srt L → (del k L).length + (if (get k L).isSome then 1 else 0) = L.length
  | [], _ => rfl
  | y :: r, h => by
    have h1 := List.pairwise_cons.1 h
    by_cases e : y.1 = k
    · have hg : get k (y :: r) = some y.2 := by simp [get, e]
      have hn : get k r = none := get_none.2 fun p hp e2 => by have := h1.1 p hp; omega
      have hd : del k (y :: r) = del k r := by simp [del, e]
      rw [hg, hd, del_of_none hn]
      simp
    · have hg : get k (y :: r) = get k r := by
        have e2 : (y.1 == k) = false := by simpa using e
        simp [get, List.find?_cons, e2]
      have hd : del k (y :: r) = y :: del k r := by simp [del, e]
      have ih := del_len (k := k) h1.2
      rw [hg, hd, List.length_cons, List.length_cons]
      omega
theorem stepsIn_lit (w : World) (s : Stp) (hs : okStp s) : StepsIn (w.alloc (.cells #[.int .i64 s.1, .int .i64 s.2.1, .int .i64 s.2.2.1, .int .i64 s.2.2.2.1, .string s.2.2.2.2] 36)) (.slice (some ⟨w.heap.size, 0, none⟩) 1 1) [s] := by
  have hb := Blk.new w 36 #[.int .i64 s.1, .int .i64 s.2.1, .int .i64 s.2.2.1, .int .i64 s.2.2.2.1, .string s.2.2.2.2]
  refine ⟨_, 1, rfl, Nat.le_refl _, by decide, fun x hx => by simp at hx; subst hx; exact hs, fun _ => ⟨w.heap.size, 0, rfl, by simp, fun i x hx => ?_⟩⟩
  have hi : i = 0 := by have := (List.getElem?_eq_some_iff.1 hx).1; simp at this; omega
  subst hi
  simp at hx
  subst hx
  exact ⟨hb.cell rfl, hb.cell rfl, hb.cell rfl, hb.cell rfl, hb.cell rfl⟩
theorem bchainSz {B : Nat} {a b : World} (h : Below B a b) (hB : B = a.heap.size := by rfl) : B ≤ b.heap.size := by subst hB; exact h.size
theorem eqA_same (s : ASt) : eqA s s = true := by simp [eqA]
end
end Go.Proofs.Ytnbiihnfggcakaa
