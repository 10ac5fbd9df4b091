/- The reference of layer 18: Stop, Set. -/
import Derived.Test.YtmojdafegljghaaRClockB
import Derived.Deep.DeepMust
set_option linter.unusedVariables false
set_option linter.unusedSimpArgs false
namespace Go.Proofs.Ytmojdafegljghaa
open Go.RowKit Go.Maps Go.Shelf

/-- One of the first i has the key id. -/
def fnd (id : Int) (Ls : List (Int × Int)) (i : Nat) : Bool := (Ls.take i).any fun p => p.1 == id
theorem fnd_zero (id : Int) (Ls : List (Int × Int)) : fnd id Ls 0 = false := by simp [fnd]
theorem fnd_yes {id : Int} {Ls : List (Int × Int)} {i : Nat} {b : Int} (h : Ls[i]? = some (id, b)) : fnd id Ls (i + 1) = true := by
  unfold fnd; rw [take_snoc h]; simp
theorem fnd_no {id : Int} {Ls : List (Int × Int)} {i : Nat} {a b : Int} (h : Ls[i]? = some (a, b)) (hne : a ≠ id) : fnd id Ls (i + 1) = fnd id Ls i := by
  unfold fnd; rw [take_snoc h]; simp [hne]
theorem fnd_all (id : Int) (Ls : List (Int × Int)) : fnd id Ls Ls.length = (get id Ls).isSome := by
  unfold fnd get
  rw [List.take_length, Option.isSome_map, Bool.eq_iff_iff, List.find?_isSome, List.any_eq_true]
theorem del_yes {id : Int} {Ls : List (Int × Int)} {i : Nat} {b : Int} (h : Ls[i]? = some (id, b)) : del id (Ls.take (i + 1)) = del id (Ls.take i) := by
  rw [take_snoc h]; simp [del]
theorem del_no {id : Int} {Ls : List (Int × Int)} {i : Nat} {a b : Int} (h : Ls[i]? = some (a, b)) (hne : a ≠ id) : del id (Ls.take (i + 1)) = del id (Ls.take i) ++ [(a, b)] := by
  rw [take_snoc h]; simp [del, hne]

def RStopPost (q : Nat) (now : Int) (id : Int) (Ls : List (Int × Int)) (w : World) (e : Ending) (w' : World) : Prop :=
  ∃ v', e = .returned (.bool (get id Ls).isSome) ∧ RTabAt w' q v' now (del id Ls) ∧ Fr (S1 q) w w'

set_option maxHeartbeats 1000000 in
theorem rstop_any (q : Nat) (v : Value) (id now : Int) (Ls : List (Int × Int)) (w : World) (h : RTabAt w q v now Ls) (hl : Ls.length ≤ 1000) :
    Calls Try.prog 23 #[.pointer (some ⟨q, 0, none⟩), .int .i64 id] w (RStopPost q now id Ls w) := by
  have c0 := h.c0
  have c2 := h.c2
  have hqw := h.blk.lt
  have HT := Lib.hid h
  obtain ⟨A, cap, rfl, hle, hA, hm, hrd, hcells⟩ := row_view h.row
  clear h hrd hm
  have HC := Lib.hid hcells
  have HC0 := Lib.hid c0
  have HC2 := Lib.hid c2
  clear hcells hA c0 c2
  obtain ⟨i0, hi, hz0, hz1, hz2⟩ := info_parts info_timer
  have HI := Lib.hid hi
  have HZ0 := Lib.hid hz0
  have HZ1 := Lib.hid hz1
  have HZ2 := Lib.hid hz2
  clear hi hz0 hz1 hz2
  go_enter Try.func23, Try.ntmps23
  go_wp2_with fail
  go_loopw [5, 6, 7] (fun o f c wr => ∃ i : Nat, i ≤ Ls.length ∧ c = .int .i64 i ∧ f = .bool (fnd id Ls i) ∧ wr.ownsRow w.heap.size 62 2 o (del id (Ls.take i)).length (cells2 (del id (Ls.take i))) ∧ Below w.heap.size w wr) (fun _ _ c _ => Ls.length - (intOf c).toNat)
  case atStart => exact ⟨0, by omega, rfl, by rw [fnd_zero], World.ownsRow_nil _ _ _ _, Below.refl _ _⟩
  case round =>
    obtain ⟨i, hi, rfl, rfl, hrow, hB⟩ := hrel
    have HROW := Lib.hid hrow
    clear hrow
    have c0 := bcell hB HC0.out
    have c2 := bcell hB HC2.out
    by_cases hlt : i < Ls.length
    · obtain ⟨g, rfl, _, _, hg⟩ := HC.out (by omega)
      obtain ⟨⟨a, b⟩, hab⟩ : ∃ p, Ls[i]? = some p := ⟨_, List.getElem?_eq_getElem hlt⟩
      have d0 := bcell hB (hg _ _ (cells2_at hab).1)
      have d1 := bcell hB (hg _ _ (cells2_at hab).2)
      have HAB := Lib.hid hab
      have hdl : (del id (Ls.take i)).length ≤ 1000 := by
        have h1 : (del id (Ls.take i)).length ≤ (Ls.take i).length := List.length_filter_le _ _
        have h2 : (Ls.take i).length ≤ Ls.length := by simp; omega
        omega
      clear hg hab
      have hbs := hB.size
      by_cases he : a = id
      · have he' : ((a : Int) == id) = true := by simpa using he
        have HN1 := Lib.hid (fnd_yes (show Ls[i]? = some (id, b) by rw [← he]; exact HAB.out))
        have HN2 := Lib.hid (del_yes (show Ls[i]? = some (id, b) by rw [← he]; exact HAB.out))
        clear he
        go_wp2_with (go_at_call 32; refine (rvalid q _ c0).mono ?_; rintro e w' ⟨rfl, rfl⟩)
        go_roundw
        case rel => exact ⟨i + 1, by omega, by go_num, by rw [HN1.out], by rw [HN2.out]; exact HROW.out, hB⟩
        case measure => simp [intOf]; omega
      · have he' : ((a : Int) == id) = false := by simpa using he
        have HN1 := Lib.hid (fnd_no HAB.out he)
        have HN2 := Lib.hid (del_no HAB.out he)
        clear he
        go_wp2_with (first
          | (go_at_call 32; refine (rvalid q _ c0).mono ?_; rintro e w' ⟨rfl, rfl⟩)
          | (at_builtin; refine wpList_app rfl _ _ 58 rfl w.heap.size 62 i0 (.agg #[.int .i64 0, .int .i64 0]) 2 16 Try.underlying58 HI.out HZ0.out HZ1.out HZ2.out rfl (by decide) _ _ _ rfl (World.ownsRow.alloc HROW.out _) (some ⟨wr.heap.size, 0, none⟩) 1 1 [.int .i64 a, .int .i64 b] rfl (fun e => by cases e) (Nat.le_refl _) (reads_two _ _ _ _) (by simp [Value.oneCell']) (by unfold maxLen; omega) (by omega) (by simp; omega) ?_; intro v' w1 hown' hgrow _))
        have hlt2 := HROW.out.lt
        go_roundw
        case rel =>
          refine ⟨i + 1, by omega, by go_num, by rw [HN1.out], ?_, hB.trans (((Below.refl _ _).alloc hbs _).grown hgrow (by simp; omega) (fun j ej => (hlt2 j ej).1))⟩
          rw [HN2.out, cells2_append]
          simpa [cells2] using hown'
        case measure => simp [intOf]; omega
    · have e : i = Ls.length := by omega
      subst e
      have hr := HROW.out
      rw [List.take_length] at hr
      have HR := Lib.hid hr
      clear hr
      cases hf : fnd id Ls Ls.length with
      | true =>
        have hg : (get id Ls).isSome = true := by rw [← fnd_all]; exact hf
        have f0 := (HT.out.blk.of_block (hB.block q hqw)).frozen 2
        have HB := Lib.hid (HT.out.blk.of_block (hB.block q hqw))
        have HG := Lib.hid hg
        have HRL := Lib.hid HR.out.lt
        obtain ⟨A', cap', hv', hle', _⟩ := row_view HR.out
        subst hv'
        clear hg hf
        go_wp2_with (go_at_call 32; refine (rvalid q _ c0).mono ?_; rintro e w' ⟨rfl, rfl⟩)
        go_ret
        refine ⟨_, by rw [HG.out]; rfl, ⟨HB.out.set 2 _, row_lower (row_keep HR.out fun g hg => Below.heap_setCell _ _ _ _ (fun e => by have e : g = q := e; have := (HRL.out g hg).1; omega)) (Nat.zero_le _)⟩, ?_⟩
        exact (Fr.of_below hB : Fr (S1 q) w wr).setCell (p := ⟨q, 2, none⟩) (.inl rfl) _
      | false =>
        have hg : (get id Ls).isSome = false := by rw [← fnd_all]; exact hf
        have HG := Lib.hid hg
        clear hg
        go_wp2_with (go_at_call 32; refine (rvalid q _ c0).mono ?_; rintro e w' ⟨rfl, rfl⟩)
        go_ret
        have hd : del id Ls = Ls := del_of_none (by have := HG.out; cases hx : get id Ls <;> simp_all)
        refine ⟨.slice A Ls.length cap, by rw [HG.out]; rfl, ?_, Fr.of_below hB⟩
        rw [hd]
        exact HT.out.below hB

theorem insS_at {x : Int × Int} : ∀ {L : List (Int × Int)} {i : Nat}, i ≤ L.length → (∀ j, j < i → ∀ p, L[j]? = some p → p.1 < x.1) → (∀ p, L[i]? = some p → x.1 < p.1) → insS x L = L.take i ++ x :: L.drop i
  | [], i, hi, _, _ => by
    have : i = 0 := by simpa using hi
    subst this
    rfl
  | y :: r, 0, _, _, h => by
    have := h y rfl
    simp [insS, this]
  | y :: r, i + 1, hi, hl, h => by
    have hy := hl 0 (by omega) y rfl
    have ih := insS_at (x := x) (L := r) (i := i) (by simpa using hi) (fun j hj p hp => hl (j + 1) (by omega) p (by simpa using hp)) (fun p hp => h p (by simpa using hp))
    simp only [insS, List.take_succ_cons, List.drop_succ_cons, List.cons_append]
    rw [if_neg (by omega), ih]

def RSetPost (q : Nat) (now : Int) (id ticks : Int) (Ls : List (Int × Int)) (w : World) (e : Ending) (w' : World) : Prop :=
  ∃ v', e = .returned (.int .i64 0) ∧ RTabAt w' q v' now (put id ticks Ls) ∧ Fr (S1 q) w w'

/-- Behind two appends onto a row of one's own: what lay is as it was. -/
theorem app2_below {w1 w2 w3 : World} {o1 o2 : Obj} {v2 : Value} {n : Nat} {e : TypeId} {size : Nat} {xs : List Value} (hg1 : (w1.alloc o1).grownBy w2 (some w1.heap.size)) (hown : w2.ownsRow w1.heap.size e size v2 n xs) (hg2 : (w2.alloc o2).grownBy w3 v2.ownBlock) (hs : w1.heap.size + 1 ≤ w2.heap.size) : Below w1.heap.size w1 w3 :=
  ((((Below.refl _ w1).alloc (Nat.le_refl _) o1).grown hg1 (by simp) (fun j ej => by cases ej; exact Nat.le_refl _)).alloc (by omega) o2).grown hg2 (by simp; omega) (fun j ej => (hown.lt j ej).1)

theorem rset_end {q n : Nat} {v v0 : Value} {now id ticks : Int} {Ls : List (Int × Int)} {xs : List Value} {e : Ending} {w w1 w4 : World}
    (hx : cells2 (put id ticks Ls) = xs) (hn : (put id ticks Ls).length = n) (he : e = .returned (.int .i64 0))
    (b : Blk w1 q 60 #[.bool true, .int .i64 now, v0]) (f : Fr (S1 q) w w1) (hb : Below w1.heap.size w1 w4) (hrow : w4.ownsRow w1.heap.size 62 2 v n xs) :
    RSetPost q now id ticks Ls w e (w4.setCell ⟨q, 2, none⟩ v) := by
  subst hx hn he
  have hq := b.lt
  refine ⟨v, rfl, ⟨(b.of_block (hb.block q hq)).set 2 _, ?_⟩, f.trans' ((Fr.of_below hb : Fr (S1 q) w1 w4).setCell (p := ⟨q, 2, none⟩) (.inl rfl) v) (fun _ _ h => h)⟩
  exact row_lower (row_keep hrow fun g hg => Below.heap_setCell _ _ _ _ (fun e => by have e : g = q := e; have := (hrow.lt g hg).1; omega)) (Nat.zero_le _)

set_option maxHeartbeats 1000000 in
theorem rset_yes (q : Nat) (v : Value) (id ticks now : Int) (Ls : List (Int × Int)) (w : World) (h : RTabAt w q v now Ls) (hl : Ls.length ≤ 1000) (t1 : 1 ≤ ticks) (t2 : ticks ≤ 1000000) :
    Calls Try.prog 22 #[.pointer (some ⟨q, 0, none⟩), .int .i64 id, .int .i64 ticks] w (RSetPost q now id ticks Ls w) := by
  have c0 := h.c0
  have HT := Lib.hid h
  clear h
  obtain ⟨i0, hi, hz0, hz1, hz2⟩ := info_parts info_timer
  have HI := Lib.hid hi
  have HZ0 := Lib.hid hz0
  have HZ1 := Lib.hid hz1
  have HZ2 := Lib.hid hz2
  clear hi hz0 hz1 hz2
  go_enter Try.func22, Try.ntmps22
  go_wp2_with (first
    | (go_at_call 32; refine (rvalid q _ c0).mono ?_; rintro e w' ⟨rfl, rfl⟩)
    | (go_at_call 23; refine (rstop_any q v id now Ls _ HT.out hl).mono ?_; rintro e w1 ⟨v1, rfl, hT1, hf1⟩))
  have HT1 := Lib.hid hT1
  have HF1 := Lib.hid hf1
  have e2 := hT1.c2
  have hview := row_view2 hT1.row
  have hq1 := hT1.blk.lt
  have hdl : (del id Ls).length ≤ 1000 := Nat.le_trans (List.length_filter_le _ _) hl
  have HNID : Hid (∀ p ∈ del id Ls, p.1 ≠ id) := fun p hp => (mem_del.1 hp).2
  have HPUT : Hid (put id ticks Ls = insS (id, ticks) (del id Ls)) := rfl
  generalize hD : del id Ls = D at *
  clear hD hT1 hf1
  rcases hview with ⟨rfl, hn, _⟩ | ⟨g, cap, rfl, hle, hm, _, hg1, hrd, hcells⟩
  · obtain rfl : D = [] := List.length_eq_zero_iff.1 hn
    go_loop [7] (fun c => c = .int .i64 0) (fun _ => 0)
    case atStart => rfl
    case round =>
      subst hrel
      have HE : Hid (insS (id, ticks) ([] : List (Int × Int)) = [(id, ticks)]) := rfl
      have HN1 : Hid (Reads w1 2 none 0 (cells2 [])) := ⟨rfl, fun h => absurd h (by omega)⟩
      go_wp2_with (at_builtin; refine wpList_app rfl _ _ 58 rfl w1.heap.size 62 i0 (.agg #[.int .i64 0, .int .i64 0]) 2 16 Try.underlying58 HI.out HZ0.out HZ1.out HZ2.out rfl (by decide) _ 0 [] rfl (row_empty w1 62 2) _ _ _ (cells2 ([])) rfl (by simp) (by omega) (HN1.out.keepB ((Below.refl _ _).alloc (Nat.le_refl _) _)) (cells2_one _) (by unfold maxLen; omega) (by omega) (by simp) ?_)
      intro v2 w2 hown2 hgrow2 _
      have hs2 := hgrow2.size
      simp at hs2
      have hown2' := Lib.hid hown2
      clear hown2
      go_wp2_with (at_builtin; refine wpList_app rfl _ _ 58 rfl w1.heap.size 62 i0 (.agg #[.int .i64 0, .int .i64 0]) 2 16 Try.underlying58 HI.out HZ0.out HZ1.out HZ2.out rfl (by decide) _ _ _ rfl (World.ownsRow.alloc hown2'.out _) (some ⟨w2.heap.size, 0, none⟩) 1 1 [.int .i64 id, .int .i64 ticks] rfl (fun e => by cases e) (Nat.le_refl _) (reads_two _ _ _ _) (by simp [Value.oneCell']) (by unfold maxLen; omega) (by omega) (by simp; omega) ?_)
      intro v3 w3 hown3 hgrow3 _
      have hb13 := app2_below hgrow2 hown2'.out hgrow3 hs2
      have e23 := bcell hb13 e2
      have hs3 := hgrow3.size
      simp at hs3
      have hown3' := Lib.hid hown3
      clear hown3
      go_wp2_with (at_builtin; refine wpList_app rfl _ _ 58 rfl w1.heap.size 62 i0 (.agg #[.int .i64 0, .int .i64 0]) 2 16 Try.underlying58 HI.out HZ0.out HZ1.out HZ2.out rfl (by decide) _ _ _ rfl hown3'.out _ _ _ (cells2 ([])) rfl (by simp) (by omega) (HN1.out.keepB hb13) (cells2_one _) (by unfold maxLen; omega) (by omega) (by omega) ?_)
      intro v4 w4 hown4 hgrow4 _
      have hb14 := hb13.grown hgrow4 (by omega) (fun j ej => (hown3'.out.lt j ej).1)
      have b4 := HT1.out.blk.fr (S := S0) (Fr.of_below hb14) (fun h => h)
      have f4 := b4.frozen 2
      have e24 := bcell hb14 e2
      obtain ⟨A4, c4, hv4, _⟩ := row_view hown4
      subst hv4
      have HO4 := Lib.hid hown4
      clear hown4 b4
      go_wp2_with fail
      go_ret
      exact rset_end (by rw [HPUT.out, HE.out]; simp [cells2]) (by rw [HPUT.out, HE.out]; simp; try omega) rfl HT1.out.blk HF1.out hb14 HO4.out
  · have HRD := Lib.hid hrd
    have HC := Lib.hid hcells
    clear hrd hcells
    go_loop [7] (fun c => ∃ i : Nat, i ≤ D.length ∧ c = .int .i64 i ∧ ∀ j, j < i → ∀ p, D[j]? = some p → p.1 < id) (fun c => D.length - (intOf c).toNat)
    case atStart => exact ⟨0, by omega, rfl, fun j hj => by omega⟩
    case round =>
      obtain ⟨i, hi, rfl, hlow⟩ := hrel
      have HLOW := Lib.hid hlow
      clear hlow
      by_cases hgo : ∃ p, D[i]? = some p ∧ p.1 < id
      · obtain ⟨⟨a, b⟩, hab, hlt⟩ := hgo
        have hin : i < D.length := (List.getElem?_eq_some_iff.1 hab).1
        have d0 := HC.out _ _ (cells2_at hab).1
        have HN : Hid (∀ j, j < i + 1 → ∀ p, D[j]? = some p → p.1 < id) := by
          intro j hj p hp
          by_cases e : j = i
          · subst e
            rw [hab] at hp
            cases hp
            exact hlt
          · exact HLOW.out j (by omega) p hp
        simp only at hlt
        clear hab
        go_wp2_with fail
        go_round
        case rel => exact ⟨i + 1, by omega, by go_num, HN.out⟩
        case measure => simp [intOf]; omega
      · have HE := Lib.hid (insS_at (x := (id, ticks)) hi HLOW.out fun p hp => by
          have h1 := HNID.out p (List.mem_of_getElem? hp)
          have h2 : ¬ p.1 < id := fun h => hgo ⟨p, hp, h⟩
          show id < p.1
          omega)
        have h1 := HRD.out.take hi
        rw [cells2_take] at h1
        have H1 := Lib.hid h1
        clear h1
        by_cases hin : i < D.length
        · obtain ⟨⟨a, b⟩, hab⟩ : ∃ p, D[i]? = some p := ⟨_, List.getElem?_eq_getElem hin⟩
          have d0 := HC.out _ _ (cells2_at hab).1
          have hge : id ≤ a := by
            have h2 : ¬ a < id := fun h => hgo ⟨_, hab, h⟩
            omega
          have hci : ¬ cap = i := by omega
          have h2 := HRD.out.cut hi hle
          rw [cells2_drop, if_neg hci, Option.map_some, add_zero_spot] at h2
          have H2 := Lib.hid h2
          clear hgo hab h2
          go_wp2_with (at_builtin; refine wpList_app rfl _ _ 58 rfl w1.heap.size 62 i0 (.agg #[.int .i64 0, .int .i64 0]) 2 16 Try.underlying58 HI.out HZ0.out HZ1.out HZ2.out rfl (by decide) _ 0 [] rfl (row_empty w1 62 2) _ _ _ (cells2 (D.take i)) rfl (by simp) (by omega) (H1.out.keepB ((Below.refl _ _).alloc (Nat.le_refl _) _)) (cells2_one _) (by unfold maxLen; omega) (by omega) (by simp) ?_)
          intro v2 w2 hown2 hgrow2 _
          have hs2 := hgrow2.size
          simp at hs2
          have hown2' := Lib.hid hown2
          clear hown2
          go_wp2_with (at_builtin; refine wpList_app rfl _ _ 58 rfl w1.heap.size 62 i0 (.agg #[.int .i64 0, .int .i64 0]) 2 16 Try.underlying58 HI.out HZ0.out HZ1.out HZ2.out rfl (by decide) _ _ _ rfl (World.ownsRow.alloc hown2'.out _) (some ⟨w2.heap.size, 0, none⟩) 1 1 [.int .i64 id, .int .i64 ticks] rfl (fun e => by cases e) (Nat.le_refl _) (reads_two _ _ _ _) (by simp [Value.oneCell']) (by unfold maxLen; omega) (by omega) (by simp; omega) ?_)
          intro v3 w3 hown3 hgrow3 _
          have hb13 := app2_below hgrow2 hown2'.out hgrow3 hs2
          have e23 := bcell hb13 e2
          have hs3 := hgrow3.size
          simp at hs3
          have hown3' := Lib.hid hown3
          clear hown3
          go_wp2_with (at_builtin; refine wpList_app rfl _ _ 58 rfl w1.heap.size 62 i0 (.agg #[.int .i64 0, .int .i64 0]) 2 16 Try.underlying58 HI.out HZ0.out HZ1.out HZ2.out rfl (by decide) _ _ _ rfl hown3'.out _ _ _ (cells2 (D.drop i)) rfl (by simp) (by omega) (H2.out.keepB hb13) (cells2_one _) (by unfold maxLen; omega) (by omega) (by omega) ?_)
          intro v4 w4 hown4 hgrow4 _
          have hb14 := hb13.grown hgrow4 (by omega) (fun j ej => (hown3'.out.lt j ej).1)
          have b4 := HT1.out.blk.fr (S := S0) (Fr.of_below hb14) (fun h => h)
          have f4 := b4.frozen 2
          have e24 := bcell hb14 e2
          obtain ⟨A4, c4, hv4, _⟩ := row_view hown4
          subst hv4
          have HO4 := Lib.hid hown4
          clear hown4 b4
          go_wp2_with fail
          go_ret
          exact rset_end (by rw [HPUT.out, HE.out]; simp [cells2]) (by rw [HPUT.out, HE.out]; simp; try omega) rfl HT1.out.blk HF1.out hb14 HO4.out
        · obtain rfl : i = D.length := by omega
          have h2 := HRD.out.cut (Nat.le_refl _) hle
          rw [cells2_drop, Option.map_some, add_zero_spot, Nat.sub_self] at h2
          clear hgo
          by_cases hci : cap = D.length
          · rw [if_pos hci] at h2
            have H2 := Lib.hid h2
            clear h2
            go_wp2_with (at_builtin; refine wpList_app rfl _ _ 58 rfl w1.heap.size 62 i0 (.agg #[.int .i64 0, .int .i64 0]) 2 16 Try.underlying58 HI.out HZ0.out HZ1.out HZ2.out rfl (by decide) _ 0 [] rfl (row_empty w1 62 2) _ _ _ (cells2 (D.take D.length)) rfl (by simp) (by omega) (H1.out.keepB ((Below.refl _ _).alloc (Nat.le_refl _) _)) (cells2_one _) (by unfold maxLen; omega) (by omega) (by simp) ?_)
            intro v2 w2 hown2 hgrow2 _
            have hs2 := hgrow2.size
            simp at hs2
            have hown2' := Lib.hid hown2
            clear hown2
            go_wp2_with (at_builtin; refine wpList_app rfl _ _ 58 rfl w1.heap.size 62 i0 (.agg #[.int .i64 0, .int .i64 0]) 2 16 Try.underlying58 HI.out HZ0.out HZ1.out HZ2.out rfl (by decide) _ _ _ rfl (World.ownsRow.alloc hown2'.out _) (some ⟨w2.heap.size, 0, none⟩) 1 1 [.int .i64 id, .int .i64 ticks] rfl (fun e => by cases e) (Nat.le_refl _) (reads_two _ _ _ _) (by simp [Value.oneCell']) (by unfold maxLen; omega) (by omega) (by simp; omega) ?_)
            intro v3 w3 hown3 hgrow3 _
            have hb13 := app2_below hgrow2 hown2'.out hgrow3 hs2
            have e23 := bcell hb13 e2
            have hs3 := hgrow3.size
            simp at hs3
            have hown3' := Lib.hid hown3
            clear hown3
            go_wp2_with (at_builtin; refine wpList_app rfl _ _ 58 rfl w1.heap.size 62 i0 (.agg #[.int .i64 0, .int .i64 0]) 2 16 Try.underlying58 HI.out HZ0.out HZ1.out HZ2.out rfl (by decide) _ _ _ rfl hown3'.out _ _ _ (cells2 (D.drop D.length)) rfl (by simp) (by omega) (H2.out.keepB hb13) (cells2_one _) (by unfold maxLen; omega) (by omega) (by omega) ?_)
            intro v4 w4 hown4 hgrow4 _
            have hb14 := hb13.grown hgrow4 (by omega) (fun j ej => (hown3'.out.lt j ej).1)
            have b4 := HT1.out.blk.fr (S := S0) (Fr.of_below hb14) (fun h => h)
            have f4 := b4.frozen 2
            have e24 := bcell hb14 e2
            obtain ⟨A4, c4, hv4, _⟩ := row_view hown4
            subst hv4
            have HO4 := Lib.hid hown4
            clear hown4 b4
            go_wp2_with fail
            go_ret
            exact rset_end (by rw [HPUT.out, HE.out]; simp [cells2]) (by rw [HPUT.out, HE.out]; simp; try omega) rfl HT1.out.blk HF1.out hb14 HO4.out
          · rw [if_neg hci] at h2
            have H2 := Lib.hid h2
            clear h2
            go_wp2_with (at_builtin; refine wpList_app rfl _ _ 58 rfl w1.heap.size 62 i0 (.agg #[.int .i64 0, .int .i64 0]) 2 16 Try.underlying58 HI.out HZ0.out HZ1.out HZ2.out rfl (by decide) _ 0 [] rfl (row_empty w1 62 2) _ _ _ (cells2 (D.take D.length)) rfl (by simp) (by omega) (H1.out.keepB ((Below.refl _ _).alloc (Nat.le_refl _) _)) (cells2_one _) (by unfold maxLen; omega) (by omega) (by simp) ?_)
            intro v2 w2 hown2 hgrow2 _
            have hs2 := hgrow2.size
            simp at hs2
            have hown2' := Lib.hid hown2
            clear hown2
            go_wp2_with (at_builtin; refine wpList_app rfl _ _ 58 rfl w1.heap.size 62 i0 (.agg #[.int .i64 0, .int .i64 0]) 2 16 Try.underlying58 HI.out HZ0.out HZ1.out HZ2.out rfl (by decide) _ _ _ rfl (World.ownsRow.alloc hown2'.out _) (some ⟨w2.heap.size, 0, none⟩) 1 1 [.int .i64 id, .int .i64 ticks] rfl (fun e => by cases e) (Nat.le_refl _) (reads_two _ _ _ _) (by simp [Value.oneCell']) (by unfold maxLen; omega) (by omega) (by simp; omega) ?_)
            intro v3 w3 hown3 hgrow3 _
            have hb13 := app2_below hgrow2 hown2'.out hgrow3 hs2
            have e23 := bcell hb13 e2
            have hs3 := hgrow3.size
            simp at hs3
            have hown3' := Lib.hid hown3
            clear hown3
            go_wp2_with (at_builtin; refine wpList_app rfl _ _ 58 rfl w1.heap.size 62 i0 (.agg #[.int .i64 0, .int .i64 0]) 2 16 Try.underlying58 HI.out HZ0.out HZ1.out HZ2.out rfl (by decide) _ _ _ rfl hown3'.out _ _ _ (cells2 (D.drop D.length)) rfl (by simp) (by omega) (H2.out.keepB hb13) (cells2_one _) (by unfold maxLen; omega) (by omega) (by omega) ?_)
            intro v4 w4 hown4 hgrow4 _
            have hb14 := hb13.grown hgrow4 (by omega) (fun j ej => (hown3'.out.lt j ej).1)
            have b4 := HT1.out.blk.fr (S := S0) (Fr.of_below hb14) (fun h => h)
            have f4 := b4.frozen 2
            have e24 := bcell hb14 e2
            obtain ⟨A4, c4, hv4, _⟩ := row_view hown4
            subst hv4
            have HO4 := Lib.hid hown4
            clear hown4 b4
            go_wp2_with fail
            go_ret
            exact rset_end (by rw [HPUT.out, HE.out]; simp [cells2]) (by rw [HPUT.out, HE.out]; simp; try omega) rfl HT1.out.blk HF1.out hb14 HO4.out
end Go.Proofs.Ytmojdafegljghaa
