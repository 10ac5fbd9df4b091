/- The reference of layer 18: the table in memory; New, valid, Left, Now, Ids, Len. -/
import Derived.Test.YtmojdafegljghaaClockC
import Derived.Test.YtmojdafegljghaaSrow
set_option linter.unusedVariables false
set_option linter.unusedSimpArgs false
namespace Go.Proofs.Ytmojdafegljghaa
open Go.RowKit Go.Maps Go.Shelf

/-- The cells of a list of pairs. -/
def cells2 (Ls : List (Int × Int)) : List Value := Ls.flatMap fun p => [.int .i64 p.1, .int .i64 p.2]
theorem cells2_length : ∀ Ls, (cells2 Ls).length = Ls.length * 2
  | [] => rfl
  | _ :: r => by have := cells2_length r; simp only [cells2, List.flatMap_cons, List.length_append, List.length_cons, List.length_nil] at this ⊢; omega
theorem cells2_append (a b : List (Int × Int)) : cells2 (a ++ b) = cells2 a ++ cells2 b := by simp [cells2]
theorem cells2_at : ∀ {Ls : List (Int × Int)} {i : Nat} {a b : Int}, Ls[i]? = some (a, b) → (cells2 Ls)[i * 2]? = some (.int .i64 a) ∧ (cells2 Ls)[i * 2 + 1]? = some (.int .i64 b)
  | [], i, a, b, h => by simp at h
  | x :: r, 0, a, b, h => by
    simp at h
    subst h
    simp [cells2]
  | x :: r, i + 1, a, b, h => by
    have ih := cells2_at (Ls := r) (i := i) (a := a) (b := b) (by simpa using h)
    have e : cells2 (x :: r) = .int .i64 x.1 :: .int .i64 x.2 :: cells2 r := rfl
    rw [e, show (i + 1) * 2 = i * 2 + 1 + 1 from by omega, show (i * 2 + 1 + 1) + 1 = (i * 2 + 1) + 1 + 1 from by omega]
    simpa using ih
theorem cells2_take : ∀ (Ls : List (Int × Int)) (k : Nat), (cells2 Ls).take (k * 2) = cells2 (Ls.take k)
  | [], k => by simp [cells2]
  | x :: r, 0 => by simp [cells2]
  | x :: r, k + 1 => by
    have ih := cells2_take r k
    have e : ∀ (y : Int × Int) t, cells2 (y :: t) = .int .i64 y.1 :: .int .i64 y.2 :: cells2 t := fun _ _ => rfl
    rw [e, List.take_succ_cons, e, show (k + 1) * 2 = k * 2 + 1 + 1 from by omega, List.take_succ_cons, List.take_succ_cons, ih]
theorem cells2_drop : ∀ (Ls : List (Int × Int)) (k : Nat), (cells2 Ls).drop (k * 2) = cells2 (Ls.drop k)
  | [], k => by simp [cells2]
  | x :: r, 0 => by simp [cells2]
  | x :: r, k + 1 => by
    have ih := cells2_drop r k
    have e : ∀ (y : Int × Int) t, cells2 (y :: t) = .int .i64 y.1 :: .int .i64 y.2 :: cells2 t := fun _ _ => rfl
    rw [e, List.drop_succ_cons, show (k + 1) * 2 = k * 2 + 1 + 1 from by omega, List.drop_succ_cons, List.drop_succ_cons, ih]
theorem cells2_one (Ls : List (Int × Int)) : ∀ u ∈ cells2 Ls, u.oneCell' := by
  intro u hu
  simp only [cells2, List.mem_flatMap] at hu
  obtain ⟨p, _, hp⟩ := hu
  simp at hp
  rcases hp with rfl | rfl <;> simp [Value.oneCell']

/-- The reference's table at the block q, its list the slice v. -/
structure RTabAt (w : World) (q : Nat) (v : Value) (now : Int) (Ls : List (Int × Int)) : Prop where
  blk : Blk w q 60 #[.bool true, .int .i64 now, v]
  row : w.ownsRow 0 62 2 v Ls.length (cells2 Ls)

namespace RTabAt
variable {w w' : World} {q : Nat} {v : Value} {now : Int} {Ls : List (Int × Int)}
theorem fr {S : Nat → Prop} (h : RTabAt w q v now Ls) (k : Fr S w w') (hq : ¬ S q) (hv : ∀ g, v.ownBlock = some g → ¬ S g) : RTabAt w' q v now Ls := ⟨h.blk.fr k hq, row_fr h.row k hv⟩
theorem below (h : RTabAt w q v now Ls) (k : Below w.heap.size w w') : RTabAt w' q v now Ls := h.fr (S := S0) (Fr.of_below k) (fun h => h) (fun _ _ h => h)
theorem c0 (h : RTabAt w q v now Ls) : w.cell? ⟨q, 0, none⟩ = some (.bool true) := h.blk.cell rfl
theorem c1 (h : RTabAt w q v now Ls) : w.cell? ⟨q, 1, none⟩ = some (.int .i64 now) := h.blk.cell rfl
theorem c2 (h : RTabAt w q v now Ls) : w.cell? ⟨q, 2, none⟩ = some v := h.blk.cell rfl
end RTabAt

theorem rvalid (q : Nat) (w : World) (h0 : w.cell? ⟨q, 0, none⟩ = some (.bool true)) :
    Calls Try.prog 32 #[.pointer (some ⟨q, 0, none⟩)] w fun e w' => e = .returned (.bool true) ∧ w = w' := by
  go_enter Try.func32, Try.ntmps32
  go_wp2
  go_ret
  exact ⟨rfl, rfl⟩

theorem rnew_any (w : World) : Calls Try.prog 21 #[] w fun e w' => ∃ q, e = .returned (.pointer (some ⟨q, 0, none⟩)) ∧ RTabAt w' q (.slice none 0 0) 0 [] ∧ w.heap.size ≤ q ∧ Below w.heap.size w w' := by
  go_enter Try.func21, Try.ntmps21
  go_wp2
  go_ret
  exact ⟨w.heap.size, rfl, ⟨Blk.new _ _ _, World.ownsRow_nil _ _ _ _⟩, Nat.le_refl _, (Below.refl _ _).alloc (Nat.le_refl _) _⟩

theorem rnow_any (q : Nat) (v : Value) (now : Int) (Ls : List (Int × Int)) (w : World) (h : RTabAt w q v now Ls) :
    Calls Try.prog 36 #[.pointer (some ⟨q, 0, none⟩)] w fun e w' => e = .returned (.int .i64 now) ∧ w = w' := by
  have c0 := h.c0
  have c1 := h.c1
  clear h
  go_enter Try.func36, Try.ntmps36
  go_wp2_with (go_at_call 32; refine (rvalid q _ c0).mono ?_; rintro e w' ⟨rfl, rfl⟩)
  go_ret
  exact ⟨rfl, rfl⟩

theorem get_first {β : Type} {k : Int} {v : β} : ∀ {L : List (Int × β)} {i : Nat}, L[i]? = some (k, v) → (∀ j, j < i → ∀ q, L[j]? = some q → q.1 ≠ k) → get k L = some v
  | [], i, h, _ => by simp at h
  | x :: r, 0, h, _ => by
    simp at h
    subst h
    simp [get]
  | x :: r, i + 1, h, hn => by
    have hx : (x.1 == k) = false := by simpa using hn 0 (by omega) x rfl
    unfold get
    rw [List.find?_cons, hx]
    exact get_first (L := r) (i := i) (by simpa using h) fun j hj q hq => hn (j + 1) (by omega) q (by simpa using hq)
theorem get_noneAt {β : Type} {k : Int} {L : List (Int × β)} (h : ∀ j, j < L.length → ∀ q, L[j]? = some q → q.1 ≠ k) : get k L = none :=
  get_none.2 fun p hp => by
    obtain ⟨j, hj, rfl⟩ := List.mem_iff_getElem.1 hp
    exact h j hj _ (List.getElem?_eq_getElem hj)

def leftR (id : Int) (Ls : List (Int × Int)) : Int := match get id Ls with | some l => l | none => 0

set_option maxHeartbeats 1000000 in
theorem rleft_any (q : Nat) (v : Value) (id now : Int) (Ls : List (Int × Int)) (w : World) (h : RTabAt w q v now Ls) (hl : Ls.length ≤ 1000) :
    Calls Try.prog 34 #[.pointer (some ⟨q, 0, none⟩), .int .i64 id] w fun e w' => e = .returned (.tuple #[.int .i64 (leftR id Ls), .bool (get id Ls).isSome]) ∧ w = w' := by
  have c0 := h.c0
  have c2 := h.c2
  obtain ⟨A, cap, rfl, hle, hA, hm, hrd, hcells⟩ := row_view h.row
  clear h hrd hm
  have HC := Lib.hid hcells
  clear hcells hA
  go_enter Try.func34, Try.ntmps34
  go_wp2_with fail
  go_loop [6] (fun c => ∃ i : Nat, i ≤ Ls.length ∧ c = .int .i64 i ∧ ∀ j, j < i → ∀ q, Ls[j]? = some q → q.1 ≠ id) (fun c => Ls.length - (intOf c).toNat)
  case atStart => exact ⟨0, by omega, rfl, fun j hj => by omega⟩
  case round =>
    obtain ⟨i, hi, rfl, hno⟩ := hrel
    have HNO := Lib.hid hno
    clear hno
    by_cases hlt : i < Ls.length
    · obtain ⟨g, rfl, _, _, hg⟩ := HC.out (by omega)
      obtain ⟨⟨a, b⟩, hab⟩ : ∃ p, Ls[i]? = some p := ⟨_, List.getElem?_eq_getElem hlt⟩
      have d0 := hg _ _ (cells2_at hab).1
      have d1 := hg _ _ (cells2_at hab).2
      have HAB := Lib.hid hab
      clear hg hab
      by_cases he : a = id
      · have he' : ((a : Int) == id) = true := by simpa using he
        have hget : get id Ls = some b := get_first (by rw [← he]; exact HAB.out) HNO.out
        have HG := Lib.hid hget
        clear he hget
        go_wp2_with (go_at_call 32; refine (rvalid q _ c0).mono ?_; rintro e w' ⟨rfl, rfl⟩)
        go_ret2
        unfold leftR
        rw [HG.out]
        exact ⟨rfl, rfl⟩
      · have he' : ((a : Int) == id) = false := by simpa using he
        have HN : Hid (∀ j, j < i + 1 → ∀ q, Ls[j]? = some q → q.1 ≠ id) := by
          intro j hj q hq
          by_cases e : j = i
          · subst e
            rw [HAB.out] at hq
            cases hq
            exact he
          · exact HNO.out j (by omega) q hq
        clear he
        go_wp2_with (go_at_call 32; refine (rvalid q _ c0).mono ?_; rintro e w' ⟨rfl, rfl⟩)
        go_round
        case rel => exact ⟨i + 1, by omega, by go_num, HN.out⟩
        case measure => simp [intOf]; omega
    · have e : i = Ls.length := by omega
      have hget : get id Ls = none := get_noneAt fun j hj => HNO.out j (by omega)
      have HG := Lib.hid hget
      clear hget
      go_wp2_with (go_at_call 32; refine (rvalid q _ c0).mono ?_; rintro e w' ⟨rfl, rfl⟩)
      go_ret2
      unfold leftR
      rw [HG.out]
      exact ⟨rfl, rfl⟩
end Go.Proofs.Ytmojdafegljghaa
