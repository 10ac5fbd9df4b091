/- Contract of the reference's Order. -/
import Derived.Test.YtklfbngmakkefaaElectF
set_option linter.unusedVariables false
set_option linter.unusedSimpArgs false
namespace Go.Proofs.Ytklfbngmakkefaa
open Go.RowKit Go.Shelf

theorem order_no (n r : Int) (w : World) (h : n < 1 ∨ 7 < n ∨ r < 0) :
    Calls Try.prog 22 #[.int .i64 n, .int .i64 r] w fun e w' => e = .returned (.tuple #[.slice none 0 0, .int .i64 2]) ∧ Below w.heap.size w w' := by
  have hchk : chk n 1 (fun _ => r) = 2 := chk1_no h
  clear h
  go_enter Try.func22, Try.ntmps22
  go_wp2_with (go_at_call 29; refine (checked_any _ _ (fun _ => r) 1 _ (by omega) (cells1 _ _ _)).mono ?_; rintro e w' ⟨rfl, rfl⟩)
  go_ret2
  exact ⟨rfl, (Below.refl _ _).alloc (Nat.le_refl _) _⟩

/-! ### The plain law -/
theorem seven {n : Int} (h1 : 1 ≤ n) (h2 : n ≤ 7) : n = 1 ∨ n = 2 ∨ n = 3 ∨ n = 4 ∨ n = 5 ∨ n = 6 ∨ n = 7 := by omega
theorem pos_inj {n r k k' : Int} (h1 : 1 ≤ n) (h2 : n ≤ 7) (hk : 0 ≤ k) (hkn : k < n) (hk' : 0 ≤ k') (hkn' : k' < n) (h : (k + r) % n = (k' + r) % n) : k = k' := by
  rcases seven h1 h2 with rfl | rfl | rfl | rfl | rfl | rfl | rfl <;> omega
theorem nth_bd {n r : Int} (h1 : 1 ≤ n) (i : Nat) : 0 ≤ nth n (fst n r) i ∧ nth n (fst n r) i < n := by
  unfold nth; exact ⟨Int.emod_nonneg _ (by omega), Int.emod_lt_of_pos _ (by omega)⟩
theorem pos_nth {n r : Int} (h1 : 1 ≤ n) (h2 : n ≤ 7) (i : Nat) (hi : (i : Int) < n) : (nth n (fst n r) i + r) % n = i := by
  unfold nth fst
  rcases seven h1 h2 with rfl | rfl | rfl | rfl | rfl | rfl | rfl <;> omega

/-- What is known of the best one among the first k nodes: the one with the smallest place from i on. -/
def Bst (n r : Int) (i : Nat) (k b : Int) : Prop :=
  (b = -1 ∧ ∀ k', 0 ≤ k' → k' < k → (k' + r) % n < i) ∨ (0 ≤ b ∧ b < k ∧ (i : Int) ≤ (b + r) % n ∧ ∀ k', 0 ≤ k' → k' < k → (i : Int) ≤ (k' + r) % n → (b + r) % n ≤ (k' + r) % n)
theorem Bst.zero (n r : Int) (i : Nat) : Bst n r i 0 (-1) := .inl ⟨rfl, fun k' h1 h2 => by omega⟩
theorem Bst.low {n r : Int} {i : Nat} {k b : Int} (h : Bst n r i k b) (hk : (k + r) % n < i) : Bst n r i (k + 1) b := by
  rcases h with ⟨h1, h2⟩ | ⟨h1, h2, h3, h4⟩
  · refine .inl ⟨h1, fun k' a1 a2 => ?_⟩
    by_cases e : k' = k
    · subst e; exact hk
    · exact h2 k' a1 (by omega)
  · refine .inr ⟨h1, by omega, h3, fun k' a1 a2 a3 => ?_⟩
    by_cases e : k' = k
    · subst e; omega
    · exact h4 k' a1 (by omega) a3
theorem Bst.first {n r : Int} {i : Nat} {k b : Int} (h : Bst n r i k b) (h0 : 0 ≤ k) (hk : (i : Int) ≤ (k + r) % n) (hb : b < 0) : Bst n r i (k + 1) k := by
  rcases h with ⟨h1, h2⟩ | ⟨h1, h2, h3, h4⟩
  · refine .inr ⟨h0, by omega, hk, fun k' a1 a2 a3 => ?_⟩
    by_cases e : k' = k
    · subst e; omega
    · have := h2 k' a1 (by omega); omega
  · omega
theorem Bst.better {n r : Int} {i : Nat} {k b : Int} (h : Bst n r i k b) (h0 : 0 ≤ k) (hk : (i : Int) ≤ (k + r) % n) (hb : 0 ≤ b) (hl : (k + r) % n < (b + r) % n) : Bst n r i (k + 1) k := by
  rcases h with ⟨h1, h2⟩ | ⟨h1, h2, h3, h4⟩
  · omega
  · refine .inr ⟨h0, by omega, hk, fun k' a1 a2 a3 => ?_⟩
    by_cases e : k' = k
    · subst e; omega
    · have := h4 k' a1 (by omega) a3; omega
theorem Bst.same {n r : Int} {i : Nat} {k b : Int} (h : Bst n r i k b) (hb : 0 ≤ b) (hl : (b + r) % n ≤ (k + r) % n) : Bst n r i (k + 1) b := by
  rcases h with ⟨h1, h2⟩ | ⟨h1, h2, h3, h4⟩
  · omega
  · refine .inr ⟨h1, by omega, h3, fun k' a1 a2 a3 => ?_⟩
    by_cases e : k' = k
    · subst e; omega
    · exact h4 k' a1 (by omega) a3
theorem Bst.lo {n r : Int} {i : Nat} {k b : Int} (h : Bst n r i k b) : -1 ≤ b ∧ b < max k 0 := by
  rcases h with ⟨h1, h2⟩ | ⟨h1, h2, h3, h4⟩ <;> omega
theorem Bst.done {n r : Int} {i : Nat} {b : Int} (h : Bst n r i n b) (h1 : 1 ≤ n) (h2 : n ≤ 7) (hi : (i : Int) < n) : b = nth n (fst n r) i := by
  have hp := pos_nth (r := r) h1 h2 i hi
  obtain ⟨q1, q2⟩ := nth_bd (r := r) h1 i
  rcases h with ⟨a1, a2⟩ | ⟨a1, a2, a3, a4⟩
  · have := a2 _ q1 q2; omega
  · have := a4 _ q1 q2 (by omega)
    exact pos_inj (r := r) h1 h2 a1 a2 q1 q2 (by omega)
theorem lv_lt {i : Nat} {p : Int} (h0 : 0 ≤ p) (h : (i : Int) ≤ p) : lv i < 6 + 4 * p := by unfold lv; split <;> omega
theorem lv_ge {i : Nat} {p : Int} (h0 : 0 ≤ p) (h : p < (i : Int)) : 6 + 4 * p ≤ lv i := by unfold lv; split <;> omega

/-- What the reference's Order hands back where its arguments are good. -/
def ROrderPost (n r : Int) (w : World) (e : Ending) (w' : World) : Prop :=
  ∃ v, e = .returned (.tuple #[v, .int .i64 0]) ∧ IntsAt w' w.heap.size v n.toNat (nth n (fst n r)) ∧ Below w.heap.size w w'

theorem rorder_no (n r : Int) (w : World) (h : n < 1 ∨ 7 < n ∨ r < 0) :
    Calls Try.prog 23 #[.int .i64 n, .int .i64 r] w fun e w' => e = .returned (.tuple #[.slice none 0 0, .int .i64 2]) ∧ w = w' := by
  by_cases hb : n < 1 ∨ 7 < n
  · clear h
    go_enter Try.func23, Try.ntmps23
    go_wp2_with (go_at_call 30; refine (rgroup_no _ _ hb).mono ?_; rintro e w' ⟨rfl, rfl⟩)
    go_ret2
    exact ⟨rfl, rfl⟩
  · have h1 : 1 ≤ n := by omega
    have h2 : n ≤ 7 := by omega
    have h3 : r < 0 := by omega
    clear h hb
    go_enter Try.func23, Try.ntmps23
    go_wp2_with (go_at_call 30; refine (rgroup_yes _ _ h1 h2).mono ?_; rintro e w' ⟨rfl, rfl⟩)
    go_ret2
    exact ⟨rfl, rfl⟩

set_option maxRecDepth 100000 in
set_option maxHeartbeats 2000000 in
theorem rorder_yes (n r : Int) (w : World) (h1 : 1 ≤ n) (h2 : n ≤ 7) (h3 : 0 ≤ r) (hr : r ≤ 9223372036854775807) :
    Calls Try.prog 23 #[.int .i64 n, .int .i64 r] w (ROrderPost n r w) := by
  obtain ⟨i0, hi, hz0, hz1, hz2⟩ := info_parts info_int
  have HI := Lib.hid hi
  have HZ0 := Lib.hid hz0
  have HZ1 := Lib.hid hz1
  have HZ2 := Lib.hid hz2
  clear hi hz0 hz1 hz2
  go_enter Try.func23, Try.ntmps23
  go_wp2_with (go_at_call 30; refine (rgroup_yes _ _ h1 h2).mono ?_; rintro e w' ⟨rfl, rfl⟩)
  go_loopw [6, 7, 8, 9, 10, 11] (fun v l c _ _ _ wr => ∃ i : Nat, (i : Int) ≤ n ∧ c = .int .i64 i ∧ l = .int .i64 (lv i) ∧ wr.ownsRow w.heap.size 3 1 v (upto n (fst n r) i).length ((upto n (fst n r) i).map (Value.int .i64)) ∧ Below w.heap.size w wr)
    (fun _ _ c _ _ _ _ => (n - intOf c).toNat)
  case atStart => exact ⟨0, by omega, rfl, rfl, World.ownsRow_nil _ _ _ _, Below.refl _ _⟩
  case round =>
    obtain ⟨i, hin, rfl, rfl, hrow, hB⟩ := hrel
    by_cases hlt : (i : Int) < n
    · have hl := lv_bd (j := i) (by omega) (by omega)
      go_wp2_with fail
      go_loop [9, 10, 11] (fun b c _ => ∃ k bb : Int, 0 ≤ k ∧ k ≤ n ∧ c = .int .i64 k ∧ b = .int .i64 bb ∧ Bst n r i k bb) (fun _ c _ => (n - intOf c).toNat)
      case atStart => exact ⟨0, -1, by omega, by omega, rfl, rfl, Bst.zero _ _ _⟩
      case round =>
        obtain ⟨k, b, hk0, hkn, rfl, rfl, hb⟩ := hrel
        have HB : Hid (Bst n r i k b) := hb
        have hbl := hb.lo
        clear hb
        by_cases hlt2 : k < n
        · have a3 : 0 ≤ (k + r) % n := Int.emod_nonneg _ (by omega)
          have a4 : (k + r) % n < n := Int.emod_lt_of_pos (k + r) (by omega)
          by_cases hp : (k + r) % n < i
          · have ht := lv_ge a3 hp
            have HN := Lib.hid (Bst.low HB.out hp)
            go_wp2_with (go_at_call 31; refine (rwait_any _ _ _ _ (by omega) (by omega) (by omega) h1 h2).mono ?_; rintro e w' ⟨rfl, rfl⟩)
            go_round
            case rel => exact ⟨k + 1, b, by omega, by omega, rfl, rfl, HN.out⟩
            case measure => simp [intOf]; omega
          · have hp2 : (i : Int) ≤ (k + r) % n := by omega
            have ht := lv_lt a3 hp2
            by_cases hb0 : b < 0
            · have HN := Lib.hid (Bst.first HB.out hk0 hp2 hb0)
              go_wp2_with (go_at_call 31; refine (rwait_any _ _ _ _ (by omega) (by omega) (by omega) h1 h2).mono ?_; rintro e w' ⟨rfl, rfl⟩)
              go_round
              case rel => exact ⟨k + 1, k, by omega, by omega, rfl, rfl, HN.out⟩
              case measure => simp [intOf]; omega
            · have b3 : 0 ≤ (b + r) % n := Int.emod_nonneg _ (by omega)
              have b4 : (b + r) % n < n := Int.emod_lt_of_pos (b + r) (by omega)
              by_cases hlb : (k + r) % n < (b + r) % n
              · have HN := Lib.hid (Bst.better HB.out hk0 hp2 (by omega) hlb)
                go_wp2_with (go_at_call 31; refine (rwait_any _ _ _ _ (by omega) (by omega) (by omega) h1 h2).mono ?_; rintro e w' ⟨rfl, rfl⟩)
                go_round
                case rel => exact ⟨k + 1, k, by omega, by omega, rfl, rfl, HN.out⟩
                case measure => simp [intOf]; omega
              · have HN := Lib.hid (Bst.same HB.out (by omega) (show (b + r) % n ≤ (k + r) % n by omega))
                go_wp2_with (go_at_call 31; refine (rwait_any _ _ _ _ (by omega) (by omega) (by omega) h1 h2).mono ?_; rintro e w' ⟨rfl, rfl⟩)
                go_round
                case rel => exact ⟨k + 1, b, by omega, by omega, rfl, rfl, HN.out⟩
                case measure => simp [intOf]; omega
        · have e : k = n := by omega
          obtain rfl : k = n := e
          have hbn := HB.out.done h1 h2 hlt
          subst hbn
          have hpn := Lib.hid (pos_nth (r := r) h1 h2 i hlt)
          obtain ⟨q1, q2⟩ := nth_bd (r := r) h1 i
          have b3 : 0 ≤ (nth k (fst k r) i + r) % k := Int.emod_nonneg _ (by omega)
          have b4 : (nth k (fst k r) i + r) % k < k := Int.emod_lt_of_pos _ (by omega)
          have hlv : Hid (lv ((i + 1 : Nat) : Int) = 6 + 4 * ((nth k (fst k r) i + r) % k)) := by show _ = _; rw [hpn.out]; unfold lv; rw [if_neg (by omega)]; omega
          have hul : (upto k (fst k r) i).length = i := upto_length _ _ _
          have HUL := Lib.hid hul
          have hul2 : (upto k (fst k r) i).length ≤ 7 := by omega
          clear hul
          go_wp2_with (first
            | (go_at_call 31; refine (rwait_any _ _ _ _ (by omega) (by omega) (by omega) h1 h2).mono ?_; rintro e w' ⟨rfl, rfl⟩)
            | (at_builtin; refine wpList_append_own _ rfl _ _ 31 rfl w.heap.size 3 i0 (.int .i64 0) 1 8 Try.underlying31 HI.out HZ0.out HZ1.out HZ2.out rfl (by decide) _ _ _ rfl (hrow.alloc _) ⟨wr.heap.size, 0, none⟩ 1 1 [.int .i64 (nth k (fst k r) i)] rfl rfl (cell_one_new _ _ _) (by simp [Value.oneCell']) (by unfold maxLen; omega) (by omega) (by have := hB.size; simp; omega) ?_; intro v' w1 hown' hgrow _))
          go_roundw
          case rel => exact ⟨i + 1, by omega, by go_num, by rw [hlv.out], by rw [upto_succ]; simpa using hown', hB.trans (((Below.refl _ _).alloc hB.size _).grown hgrow (by have := hB.size; simp; omega) (fun j ej => (hrow.lt j ej).1))⟩
          case measure => simp [intOf]; omega
    · have e : (i : Int) = n := by omega
      have e2 : i = n.toNat := by omega
      subst e2
      go_wp2
      go_ret2
      rw [upto_length] at hrow
      exact ⟨_, rfl, intsAt_of_owns (by omega) hrow, hB⟩
end Go.Proofs.Ytklfbngmakkefaa
