/- Package chosen: further votes; which slots differ: plain laws; slices.IndexFunc of entries. -/
import Derived.Test.YthkdmpalhdifbaaDoorChoYF
set_option linter.unusedVariables false
set_option linter.unusedSimpArgs false
namespace Go.Proofs.YthkdmpalhdifbaaDoor
open Go.RowKit Go.Maps Go.Shelf Go.Sort Go.Lib

theorem VotesIn.take {w : World} {A : Option Addr} {cap : Nat} {L : List Vt} (h : VotesIn w (.slice A L.length cap) L) {c : Nat} (hc : c ≤ L.length) : VotesIn w (.slice A c cap) (L.take c) := by
  obtain ⟨A', cap', e, h2, h3, h4⟩ := h
  cases e
  have hl : (L.take c).length = c := by rw [List.length_take]; omega
  refine ⟨_, _, by rw [hl], by omega, h3, fun h0 => ?_⟩
  rw [hl] at h0
  obtain ⟨b, off, k1, k2, k3⟩ := h4 (by omega)
  refine ⟨b, off, k1, k2, fun i x hx => k3 i x ?_⟩
  rw [List.getElem?_take] at hx
  split at hx
  · exact hx
  · cases hx
theorem nodup_len : ∀ {a b : List Nat}, a.Nodup → (∀ x ∈ a, x ∈ b) → a.length ≤ b.length
  | [], b, _, _ => Nat.zero_le _
  | x :: r, b, hn, hs => by
    have hx : x ∈ b := hs x (by simp)
    have hr := List.nodup_cons.1 hn
    have ih := nodup_len (a := r) (b := b.erase x) hr.2 (fun y hy => (List.mem_erase_of_ne (fun e => hr.1 (by rw [← e]; exact hy))).2 (hs y (by simp [hy])))
    rw [List.length_erase_of_mem hx] at ih
    have := List.length_pos_of_mem hx
    simp only [List.length_cons]
    omega
section
variable {n : Nat} {L M : List Vt} {A B : GA} {s : Int}
/-- A place that is chosen is chosen with further votes. -/
theorem at_more (hn : 1 ≤ n ∧ n ≤ 7) (hM : AOk n M B) (hL : AOk n L A) (hs : ∀ x ∈ M, x ∈ L) {q : Pl × Sd} (hq : q ∈ atS n s B) : ∃ q' ∈ atS n s A, baOf q' = baOf q := by
  obtain ⟨h1, h2, ⟨x, hx, hxs, hxb⟩, _, hbit⟩ := at_spec hM hq
  obtain ⟨m, hm, hmb⟩ := hL.at (hs x hx)
  have hpx : vpl x = (s, baOf q) := by rw [vpl, hxs, ← hxb]
  rw [hpx] at hm hmb
  refine ⟨((s, baOf q), (x.v, m)), mem_atS.2 ⟨(mem_A hL).2 hm, rfl, ?_⟩, rfl⟩
  refine maj_mono (fun i _ hi => ?_) h2
  obtain ⟨y, hy, hys, hyb, hyi⟩ := (hbit i).1 hi
  exact (hmb i).2 ⟨y, hs y hy, by rw [vpl, hys, ← hyb], hyi⟩
theorem more_at (hn : 1 ≤ n ∧ n ≤ 7) (hM : AOk n M B) (hL : AOk n L A) (hs : ∀ x ∈ M, x ∈ L) {o1 o2 : List En} {d1 d2 : Int} (h1 : POk n B o1 d1) (h2 : POk n A o2 d2) {x : En} (hx : x ∈ o1) :
    (∃ y ∈ o2, ((y.1.val : Nat) : Int) = ((x.1.val : Nat) : Int)) ∧ ∀ y ∈ o2, ((y.1.val : Nat) : Int) = ((x.1.val : Nat) : Int) → ¬ blt x.2.1 y.2.1 := by
  obtain ⟨⟨m, hm⟩, _⟩ := h1.mem x hx
  obtain ⟨q, hq, hqb⟩ := at_more hn hM hL hs hm
  refine ⟨h2.all _ q hq, fun y hy hys hlt => ?_⟩
  have := (h2.mem y hy).2 q (by rw [hys]; exact hq)
  apply this
  show ordB (baOf q) y.2.1 < 0
  rw [hqb]
  exact hlt
theorem more_len (hn : 1 ≤ n ∧ n ≤ 7) (hM : AOk n M B) (hL : AOk n L A) (hs : ∀ x ∈ M, x ∈ L) {o1 o2 : List En} {d1 d2 : Int} (h1 : POk n B o1 d1) (h2 : POk n A o2 d2) : o1.length ≤ o2.length := by
  have h := nodup_len (a := o1.map fun e => e.1.val) (b := o2.map fun e => e.1.val) (by
    unfold List.Nodup
    rw [List.pairwise_map]
    exact h1.sorted.imp fun h e => by omega) (fun k hk => by
    obtain ⟨x, hx, rfl⟩ := List.mem_map.1 hk
    obtain ⟨⟨y, hy, hys⟩, _⟩ := more_at hn hM hL hs h1 h2 hx
    exact List.mem_map.2 ⟨y, hy, by omega⟩)
  simpa using h

/-! ### The nodes of a place -/
def nodesF (k : Pl) (l : List Vt) : Nat := l.foldl (fun m x => if vpl x = k then m ||| 2 ^ x.nd.toNat else m) 0
theorem nodesF_snoc (k : Pl) (l : List Vt) (x : Vt) : nodesF k (l ++ [x]) = if vpl x = k then nodesF k l ||| 2 ^ x.nd.toNat else nodesF k l := by
  unfold nodesF
  rw [List.foldl_append]
  rfl
theorem nodesF_take {k : Pl} {L : List Vt} {j : Nat} {x : Vt} (h : L[j]? = some x) : nodesF k (L.take (j + 1)) = if vpl x = k then nodesF k (L.take j) ||| 2 ^ x.nd.toNat else nodesF k (L.take j) := by
  rw [List.take_add_one, h]
  exact nodesF_snoc k _ x
theorem nodesF_bit {k : Pl} {i : Nat} : ∀ {l : List Vt}, (∀ x ∈ l, 0 ≤ x.nd) → ((nodesF k l).testBit i = true ↔ ∃ x ∈ l, vpl x = k ∧ x.nd = (i : Int)) := by
  have : ∀ (m p : List Vt), (∀ x ∈ m, 0 ≤ x.nd) → ((nodesF k p).testBit i = true ↔ ∃ x ∈ p, vpl x = k ∧ x.nd = (i : Int)) → ((nodesF k (p ++ m)).testBit i = true ↔ ∃ x ∈ p ++ m, vpl x = k ∧ x.nd = (i : Int)) := by
    intro m
    induction m with
    | nil => intro p _ h; rw [List.append_nil]; exact h
    | cons x r ih =>
      intro p h0 h
      have e : p ++ x :: r = (p ++ [x]) ++ r := by simp
      rw [e]
      refine ih (p ++ [x]) (fun y hy => h0 y (by simp [hy])) ?_
      rw [nodesF_snoc]
      by_cases hk : vpl x = k
      · rw [if_pos hk, testBit_put, Bool.or_eq_true, decide_eq_true_eq, h]
        have h1 := h0 x (by simp)
        constructor
        · rintro (⟨y, hy, h2⟩ | h2)
          · exact ⟨y, by simp [hy], h2⟩
          · exact ⟨x, by simp, hk, by omega⟩
        · rintro ⟨y, hy, h2, h3⟩
          rcases List.mem_append.1 hy with hy | hy
          · exact .inl ⟨y, hy, h2, h3⟩
          · rw [List.mem_singleton] at hy; subst hy; right; omega
      · rw [if_neg hk, h]
        constructor
        · rintro ⟨y, hy, h2⟩
          exact ⟨y, by simp [hy], h2⟩
        · rintro ⟨y, hy, h2, h3⟩
          rcases List.mem_append.1 hy with hy | hy
          · exact ⟨y, hy, h2, h3⟩
          · rw [List.mem_singleton] at hy; subst hy; exact absurd h2 hk
  intro l h0
  have h := this l [] h0 (by simp [nodesF])
  simpa using h
theorem nodesF_lt (hn : 1 ≤ n ∧ n ≤ 7) (hP : Poss n L) {l : List Vt} (hs : ∀ x ∈ l, x ∈ L) (k : Pl) : nodesF k l < 2 ^ n := by
  apply Nat.lt_pow_two_of_testBit
  intro i hi
  rw [Bool.eq_false_iff]
  intro hb
  obtain ⟨x, hx, _, h⟩ := (nodesF_bit (fun x hx => (alone_r hn (hP.al x (hs x hx))).1.1)).1 hb
  have := (alone_r hn (hP.al x (hs x hx))).1
  omega
/-- The place of a vote is a chosen one. -/
theorem nodes_at (hn : 1 ≤ n ∧ n ≤ 7) (hP : Poss n L) (hA : AOk n L A) {x : Vt} (hx : x ∈ L) (h : maj (nodesF (vpl x) L) n = true) : ∃ m, (vpl x, (x.v, m)) ∈ atS n x.sl A := by
  obtain ⟨m, hm, hb⟩ := hA.at hx
  have e : nodesF (vpl x) L = m := Nat.eq_of_testBit_eq fun i => by
    have h1 := nodesF_bit (k := vpl x) (i := i) (fun y hy => (alone_r hn (hP.al y hy)).1.1)
    have h2 := hb i
    cases h3 : m.testBit i with
    | true => rw [h3] at h2; exact h1.2 (h2.1 rfl)
    | false =>
      rw [Bool.eq_false_iff]
      intro h4
      rw [h3] at h2
      have := h2.2 (h1.1 h4)
      cases this
  rw [e] at h
  exact ⟨m, mem_atS.2 ⟨(mem_A hA).2 hm, rfl, h⟩⟩
theorem at_nodes (hn : 1 ≤ n ∧ n ≤ 7) (hP : Poss n L) (hA : AOk n L A) {p : Pl × Sd} (hp : p ∈ atS n s A) : ∃ x ∈ L, x.sl = s ∧ x.v = p.2.1 ∧ maj (nodesF (vpl x) L) n = true := by
  obtain ⟨h1, h2, ⟨x, hx, hxs, hxb⟩, hv, hbit⟩ := at_spec hA hp
  refine ⟨x, hx, hxs, hv x hx hxs hxb, maj_mono (fun i _ hi => ?_) h2⟩
  obtain ⟨y, hy, hys, hyb, hyi⟩ := (hbit i).1 hi
  refine (nodesF_bit (fun y hy => (alone_r hn (hP.al y hy)).1.1)).2 ⟨y, hy, ?_, hyi⟩
  have : vbl y = vbl x := hyb.trans hxb.symm
  rw [vpl, vpl, hys, hxs]
  simp only [Prod.mk.injEq] at this ⊢
  exact ⟨trivial, this.1, this.2⟩
/-- A vote of a chosen ballot for another value than the chosen one. -/
def badV (n : Nat) (L : List Vt) (x : Vt) : Bool := maj (nodesF (vpl x) L) n && !((chosenF n L x.sl).1.toList == x.v.toList)
theorem chosenF_eq (hn : 1 ≤ n ∧ n ≤ 7) (hA0 : (gwalk n [] [] 0 L).1 = some A) (hs : (decide (s ≥ 0) && decide (s < 4096)) = true) : chosenF n L s = (match pickV n A s with | some v => (v, true, 0) | none => (⟨#[]⟩, false, 0)) := by
  unfold chosenF
  rw [hA0]
  simp only
  rw [if_pos hs]
  cases pickV n A s <;> rfl
theorem two_at {p1 : Pl × Sd} (h : p1 ∈ atS n s A) (v : ByteArray) (hv : pickV n A s = some v) (hne : p1.2.1 ≠ v) : Two n A s := by
  unfold pickV at hv
  obtain ⟨q, hq, rfl⟩ := Option.map_eq_some_iff.1 hv
  exact ⟨p1, h, q, (pick1_some hq).1, hne⟩
theorem pick_some {p1 : Pl × Sd} (h : p1 ∈ atS n s A) : ∃ v, pickV n A s = some v := by
  unfold pickV
  cases hp : pick1 (atS n s A) with
  | none => rw [pick1_none.1 hp] at h; cases h
  | some q => exact ⟨_, rfl⟩
theorem agree_seen (hn : 1 ≤ n ∧ n ≤ 7) (hP : Poss n L) (hA0 : (gwalk n [] [] 0 L).1 = some A) (hA : AOk n L A) :
    (L.any (badV n L) = false → agreeF n L = (true, 0, 0)) ∧ (L.any (badV n L) = true → agreeF n L = (false, difF n A, 0) ∧ ∀ x ∈ L, badV n L x = true → difF n A ≤ x.sl) := by
  have h0 : ∀ p ∈ A, 0 ≤ p.1.1 := fun p hp => by
    obtain ⟨⟨x, hx, hk⟩, _⟩ := hA.yes _ _ _ ((mem_A hA).1 hp)
    have := (alone_r hn (hP.al x hx)).2.2.2.1.1
    rw [(vbl_of hk).1] at this
    exact this
  have hbad : ∀ x ∈ L, badV n L x = true → Two n A x.sl := fun x hx hb => by
    unfold badV at hb
    rw [Bool.and_eq_true, Bool.not_eq_true'] at hb
    obtain ⟨m, hm⟩ := nodes_at hn hP hA hx hb.1
    obtain ⟨v, hv⟩ := pick_some hm
    have hc := chosenF_eq hn hA0 (alone_args (hP.al x hx)).2.2
    rw [hc, hv] at hb
    refine two_at hm v hv (fun e => ?_)
    have e : x.v = v := e
    rw [e] at hb
    simp at hb
  have hin : ∀ s, Two n A s → ∃ p ∈ A, p.1.1 = s := fun s ⟨p, hp, _⟩ => ⟨p, (mem_atS.1 hp).1, (mem_atS.1 hp).2.1⟩
  have hd := difG_ok (n := n) h0 A (fun p hp => hp)
  unfold agreeF
  rw [hA0]
  simp only
  constructor
  · intro hno
    rcases hd with ⟨h1, _⟩ | ⟨h1, h2, _⟩
    · unfold difF; rw [h1]; rfl
    · exfalso
      obtain ⟨p, hp, q, hq, hne⟩ := h2
      obtain ⟨v, hv⟩ := pick_some hp
      have key : ∀ r ∈ atS n (difG n A A) A, r.2.1 ≠ v → False := fun r hr hrv => by
        obtain ⟨x, hx, hxs, hxv, hxm⟩ := at_nodes hn hP hA hr
        rw [List.any_eq_false] at hno
        apply hno x hx
        have hc := chosenF_eq hn hA0 (alone_args (hP.al x hx)).2.2
        unfold badV
        rw [hxm, hc, hxs, hv, hxv]
        simp only [Bool.true_and, Bool.not_eq_true', beq_eq_false_iff_ne]
        exact fun e => hrv (toList_inj e).symm
      by_cases hpv : p.2.1 = v
      · exact key q hq (fun e => hne (hpv.trans e.symm))
      · exact key p hp hpv
  · intro hyes
    obtain ⟨x, hx, hb⟩ := List.any_eq_true.1 hyes
    have ht := hbad x hx hb
    rcases hd with ⟨h1, h2⟩ | ⟨h1, h2, h3⟩
    · exfalso
      obtain ⟨p, hp, hps⟩ := hin _ ht
      exact h2 p hp (by rw [hps]; exact ht)
    · refine ⟨by rw [if_pos (show difF n A ≥ 0 from h1)], fun y hy hyb => ?_⟩
      obtain ⟨p, hp, hps⟩ := hin _ (hbad y hy hyb)
      have := h3 p hp (by rw [hps]; exact hbad y hy hyb)
      rw [hps] at this
      exact this
end
set_option maxRecDepth 100000 in
theorem more1_any (b : Nat) (s er ed : Int) (v : ByteArray) (ys yr yd : Int) (yv : ByteArray) (w : World) (h : EnAt w b s (er, ed) v) :
    Calls Tryd.prog 15 #[.agg #[.int .i64 ys, .int .i64 yr, .int .i64 yd, .string yv], .pointer (some ⟨b, 0, none⟩)] w fun e w' => e = .returned (.bool (ys == s)) ∧ Below w.heap.size w w' := by
  have hb := box_below w (.cells #[.int .i64 ys, .int .i64 yr, .int .i64 yd, .string yv] 40)
  have HB := Lib.hid hb
  have e0 := bcell hb (Blk.cell h (i := 0) (v := .int .i64 s) rfl)
  clear h hb
  go_enter Tryd.func15, Tryd.ntmps15
  go_wp2_with fail
  go_returns
  exact ⟨rfl, HB.out⟩
set_option maxRecDepth 100000 in
set_option maxHeartbeats 2000000 in
/-- slices.IndexFunc of the entries: the one at a slot. -/
theorem ixMore (b : Nat) (s er ed : Int) (v : ByteArray) (va : Value) (L : List En) (w : World) (h : EnAt w b s (er, ed) v) (hv : EnIn w va L) (hex : ∃ y ∈ L, ((y.1.val : Nat) : Int) = s) :
    Calls Tryd.prog 14 #[va, .func (.func 15) #[] #[.pointer (some ⟨b, 0, none⟩)]] w fun e w' =>
      ∃ (r : Nat) (y : En), e = .returned (.int .i64 r) ∧ L[r]? = some y ∧ ((y.1.val : Nat) : Int) = s ∧ Below w.heap.size w w' := by
  obtain ⟨A0, cap0, rfl, hml, hcells⟩ := hv
  have HC := Lib.hid hcells
  have H := Lib.hid h
  have HEX := Lib.hid hex
  clear hcells h hex
  go_enter Tryd.func14, Tryd.ntmps14
  go_wp2_with fail
  go_loopg [8] L.length (fun g c wr => ∃ j, j ≤ L.length ∧ g = L.length - j ∧ c = .int .i64 j ∧ (∃ y ∈ L.drop j, ((y.1.val : Nat) : Int) = s) ∧ Below w.heap.size w wr)
  case atStart => exact ⟨0, by omega, by omega, rfl, by rw [List.drop_zero]; exact HEX.out, Below.refl _ _⟩
  case round =>
    obtain ⟨j, hj, rfl, rfl, hin, hB⟩ := hrel
    have IN := Lib.hid hin
    have B := Lib.hid hB
    clear hin hB
    have hlt : j < L.length := by
      apply Classical.byContradiction
      intro h
      obtain ⟨y, hy, _⟩ := IN.out
      rw [List.drop_eq_nil_of_le (by omega)] at hy
      cases hy
    obtain ⟨b0, rfl, hb, hcc⟩ := HC.out (by omega)
    obtain ⟨⟨fs, ⟨yr, yd⟩, yv⟩, hx⟩ : ∃ x, L[j]? = some x := ⟨_, List.getElem?_eq_getElem hlt⟩
    obtain ⟨q0, q1, q2, q3⟩ := hcc j _ hx
    simp only at q0 q1 q2 q3
    have q0 := bcell B.out q0
    have q1 := bcell B.out q1
    have q2 := bcell B.out q2
    have q3 := bcell B.out q3
    have HX := Lib.hid hx
    obtain ⟨S, hS⟩ : ∃ S : Int, ((fs.val : Nat) : Int) = S := ⟨_, rfl⟩
    rw [hS] at q0
    have HS := Lib.hid hS
    have EN : Hid (EnAt wr b s (er, ed) v) := Blk.fr H.out (Fr.of_below B.out : Fr S0 _ _) (fun h => h)
    clear hx hcc hS
    obtain ⟨q, hq⟩ : ∃ q, (S == s) = q := ⟨_, rfl⟩
    have HQ := Lib.hid hq
    clear hq
    cases q with
    | true =>
      go_wp2_with (go_at_call 15; refine (more1_any b s er ed v S yr yd yv _ EN.out).mono ?_; rw [HQ.out]; rintro e w2 ⟨rfl, b2⟩; have B2 := Lib.hid (bchain B.out b2); clear b2)
      go_returns
      exact ⟨j, _, rfl, HX.out, by rw [HS.out]; exact eq_of_beq HQ.out, B2.out⟩
    | false =>
      go_wp2_with (go_at_call 15; refine (more1_any b s er ed v S yr yd yv _ EN.out).mono ?_; rw [HQ.out]; rintro e w2 ⟨rfl, b2⟩; have B2 := Lib.hid (bchain B.out b2); clear b2)
      have IN2 : Hid (∃ y ∈ L.drop (j + 1), ((y.1.val : Nat) : Int) = s) := by
        obtain ⟨y, hy, hys⟩ := IN.out
        rw [List.drop_eq_getElem_cons hlt] at hy
        rcases List.mem_cons.1 hy with h1 | h1
        · have h2 := HX.out
          rw [List.getElem?_eq_getElem hlt] at h2
          rw [h1, Option.some.inj h2, HS.out] at hys
          have h3 := HQ.out
          rw [hys] at h3
          simp at h3
        · exact ⟨y, h1, hys⟩
      go_roundg (L.length - (j + 1))
      case measure => omega
      case rel => exact ⟨j + 1, by omega, rfl, by go_num, IN2.out, B2.out⟩
end Go.Proofs.YthkdmpalhdifbaaDoor
