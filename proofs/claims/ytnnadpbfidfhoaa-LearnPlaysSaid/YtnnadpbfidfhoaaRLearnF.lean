/- The reference's learner: Add in one; Open; Copy. -/
import Derived.Test.YtnnadpbfidfhoaaRLearnE
import Derived.Deep.RegionHeld3
set_option linter.unusedVariables false
set_option linter.unusedSimpArgs false
namespace Go.Proofs.Ytnnadpbfidfhoaa
open Go.RowKit Go.Maps Go.Shelf

theorem rladd_any (p : Nat) (v0 : Value) (s : LSt) (R : KL) (node r d k : Int) (v : ByteArray) (w : World) (h : RLAt w p v0 s R) :
    Calls Try.prog 22 #[.pointer (some ⟨p, 0, none⟩), .int .i64 node, balV r d, .int .i64 k, .string v] w (RAddPost p s (adR s node r d k v).2 (adR s node r d k v).1.1 (adR s node r d k v).1.2 w) := by
  unfold adR
  by_cases h1 : adC s node r d k v = 0
  case neg =>
    rw [if_pos h1]
    unfold adC at h1 ⊢
    cases hv : isV s.n node r d with
    | false =>
      have E : lchk s.base (!false) k v.size = 2 := by simp [lchk]
      rw [E]
      exact rladd_novote p v0 s R node r d k v w h hv
    | true =>
      rw [hv] at h1
      exact rladd_chk p v0 s R node r d k v w h hv h1
  rw [if_neg (by rw [h1]; simp)]
  obtain ⟨hv0, _⟩ := lchk_zero h1
  have hv : isV s.n node r d = true := by simpa using hv0
  have h1' : lchk s.base false k v.size = 0 := by unfold adC at h1; rwa [hv] at h1
  by_cases h2 : ordB (r, d) ((kget k s.L).r, (kget k s.L).d) < 0
  · rw [if_pos h2]
    exact rladd_old p v0 s R node r d k v w h hv h1' h2
  rw [if_neg h2]
  by_cases h3 : adBad (kget k s.L) r d v
  · rw [if_pos h3]
    exact rladd_bad p v0 s R node r d k v w h hv h1' h2 h3
  rw [if_neg h3]
  obtain ⟨a, rfl, ha⟩ := isV_node hv
  exact rladd_yes p v0 s R a r d k v w h hv h1' h2 h3

/-! ### Open -/
def nstep (last acc : Int) (q : Int × Kn) : Int := if q.2.c = false ∧ last < q.1 ∧ q.1 < acc then q.1 else acc
def nxt (last : Int) (L : KL) : Int := L.foldl (nstep last) 4096
theorem nxt_snoc (last : Int) (L : KL) (q : Int × Kn) : nxt last (L ++ [q]) = nstep last (nxt last L) q := by unfold nxt; rw [List.foldl_append]; rfl
theorem snoc_ind {P : KL → Prop} (h0 : P []) (h1 : ∀ L q, P L → P (L ++ [q])) (L : KL) : P L := by
  have h2 : ∀ M : KL, P M.reverse := by
    intro M
    induction M with
    | nil => exact h0
    | cons x r ih => rw [List.reverse_cons]; exact h1 _ _ ih
  have := h2 L.reverse
  rwa [List.reverse_reverse] at this
theorem nxt_le (last : Int) (L : KL) : nxt last L ≤ 4096 := by
  refine snoc_ind (P := fun L => nxt last L ≤ 4096) (Int.le_refl _) (fun L q ih => ?_) L
  rw [nxt_snoc]; unfold nstep; split <;> omega
theorem nxt_mem (last : Int) (L : KL) : nxt last L = 4096 ∨ ∃ q ∈ L, q.2.c = false ∧ last < q.1 ∧ q.1 = nxt last L := by
  refine snoc_ind (P := fun L => nxt last L = 4096 ∨ ∃ q ∈ L, q.2.c = false ∧ last < q.1 ∧ q.1 = nxt last L) (.inl rfl) (fun L q ih => ?_) L
  · rw [nxt_snoc]
    unfold nstep
    split
    · rename_i h
      exact .inr ⟨q, by simp, h.1, h.2.1, rfl⟩
    · rcases ih with h | ⟨x, h1, h2⟩
      · exact .inl h
      · exact .inr ⟨x, by simp [h1], h2⟩
theorem nxt_min (last : Int) (L : KL) : ∀ q ∈ L, q.2.c = false → last < q.1 → q.1 < 4096 → nxt last L ≤ q.1 := by
  refine snoc_ind (P := fun L => ∀ q ∈ L, q.2.c = false → last < q.1 → q.1 < 4096 → nxt last L ≤ q.1) (fun q hq => by simp at hq) (fun L x ih => ?_) L
  · intro q hq h1 h2 h3
    rw [nxt_snoc]
    unfold nstep
    rcases List.mem_append.1 hq with hq | hq
    · have := ih q hq h1 h2 h3
      split <;> omega
    · simp at hq
      subst hq
      split
      · exact Int.le_refl _
      · rename_i h
        exact Int.not_lt.1 fun hc => h ⟨h1, h2, hc⟩
theorem mem_opn {x : Int} {L : KL} : x ∈ opn L ↔ ∃ q ∈ L, q.2.c = false ∧ q.1 = x := by
  unfold opn
  rw [List.mem_map]
  constructor
  · rintro ⟨q, hq, rfl⟩
    rw [List.mem_filter] at hq
    exact ⟨q, hq.1, by simpa using hq.2, rfl⟩
  · rintro ⟨q, hq, hc, rfl⟩
    exact ⟨q, List.mem_filter.2 ⟨hq, by simp [hc]⟩, rfl⟩
/-- The next slot behind the first j open ones. -/
theorem nxt_opn {R L : KL} (h : R.Perm L) (hs : Srt L) (hb : ∀ q ∈ L, 0 ≤ q.1 ∧ q.1 < 4096) {j : Nat} {last : Int} (hj : j ≤ (opn L).length)
    (h1 : ∀ x ∈ (opn L).take j, x ≤ last) (h2 : ∀ x ∈ (opn L).drop j, last < x) :
    (j = (opn L).length ∧ nxt last R = 4096) ∨ (∃ hlt : j < (opn L).length, nxt last R = (opn L)[j] ∧ nxt last R < 4096 ∧
      (∀ x ∈ (opn L).take (j + 1), x ≤ (opn L)[j]) ∧ (∀ x ∈ (opn L).drop (j + 1), (opn L)[j] < x)) := by
  have hso := opn_sorted hs
  by_cases hlt : j < (opn L).length
  case neg =>
    refine .inl ⟨by omega, ?_⟩
    rcases nxt_mem last R with e | ⟨q, hq, hc, hl, e⟩
    · exact e
    · have hm : q.1 ∈ opn L := mem_opn.2 ⟨q, h.mem_iff.1 hq, hc, rfl⟩
      have hq1 := h1 q.1 (by rw [List.take_of_length_le (by omega)]; exact hm)
      omega
  right
  have hx : (opn L)[j] ∈ opn L := List.getElem_mem hlt
  obtain ⟨q, hq, hc, hqx⟩ := mem_opn.1 hx
  have hbq := hb q hq
  have hdj : (opn L).drop j = (opn L)[j] :: (opn L).drop (j + 1) := List.drop_eq_getElem_cons hlt
  have hlx : last < (opn L)[j] := h2 _ (by rw [hdj]; exact List.mem_cons_self ..)
  have hle := nxt_min last R q (h.mem_iff.2 hq) hc (by omega) hbq.2
  have hsd : ((opn L).drop j).Pairwise (· < ·) := hso.sublist (List.drop_sublist _ _)
  rw [hdj] at hsd
  have hsd1 := (List.pairwise_cons.1 hsd).1
  have hge : (opn L)[j] ≤ nxt last R := by
    rcases nxt_mem last R with e | ⟨y, hy, hyc, hyl, e⟩
    · omega
    · have hm : y.1 ∈ opn L := mem_opn.2 ⟨y, h.mem_iff.1 hy, hyc, rfl⟩
      rw [← List.take_append_drop j (opn L), List.mem_append] at hm
      rcases hm with hm | hm
      · have := h1 _ hm; omega
      · rw [hdj, List.mem_cons] at hm
        rcases hm with hm | hm
        · omega
        · have := hsd1 _ hm; omega
  refine ⟨hlt, by omega, by omega, fun x hx2 => ?_, fun x hx2 => hsd1 x hx2⟩
  rw [List.take_succ_eq_append_getElem hlt, List.mem_append] at hx2
  rcases hx2 with hx2 | hx2
  · have := h1 x hx2; omega
  · simp at hx2; omega
theorem opn_len (L : KL) : (opn L).length ≤ L.length := by unfold opn; rw [List.length_map]; exact List.length_filter_le _ _

set_option maxRecDepth 100000 in
set_option maxHeartbeats 2000000 in
theorem rlopen_any (p : Nat) (v0 : Value) (s : LSt) (R : KL) (w : World) (h : RLAt w p v0 s R) :
    Calls Try.prog 48 #[.pointer (some ⟨p, 0, none⟩)] w fun e w' => ∃ v, e = .returned v ∧ IntRow w' w.heap.size v (opn s.L) ∧ Below w.heap.size w w' := by
  have hl := h.len
  have hlo := Nat.le_trans (opn_len s.L) h.good.len
  have HN : Hid (∀ (j : Nat) (last : Int), j ≤ (opn s.L).length → (∀ x ∈ (opn s.L).take j, x ≤ last) → (∀ x ∈ (opn s.L).drop j, last < x) → _) := fun j last a b c => nxt_opn h.perm h.good.srt (fun q hq => by have := h.good.kin q hq; omega) a b c
  have HPOS : Hid (∀ x ∈ opn s.L, (-1 : Int) < x) := fun x hx => by
    obtain ⟨q, hq, _, rfl⟩ := mem_opn.1 hx
    have := h.good.kin q hq
    omega
  have c2 := h.c2
  obtain ⟨A, cap, rfl, hcap, hc⟩ := h.row.view
  have HC := Lib.hid hc
  obtain ⟨i0, hi, hz0, hz1, hz2⟩ := info_parts info_int2
  have HI := Lib.hid hi
  have HZ0 := Lib.hid hz0
  have HZ1 := Lib.hid hz1
  have HZ2 := Lib.hid hz2
  clear hi hz0 hz1 hz2 hc h
  go_enter Try.func48, Try.ntmps48
  go_wp2_with fail
  go_loopg [3, 4] (opn s.L).length (fun g v4 c wr => ∃ (j : Nat) (last : Int) (xs : List Int), j ≤ (opn s.L).length ∧ xs = (opn s.L).take j ∧ g = (opn s.L).length - j ∧ c = .int .i64 last ∧ (∀ x ∈ (opn s.L).take j, x ≤ last) ∧ (∀ x ∈ (opn s.L).drop j, last < x) ∧ IntRow wr w.heap.size v4 xs ∧ Below w.heap.size w wr)
  case atStart => exact ⟨0, -1, [], by omega, rfl, by omega, rfl, fun x hx => by simp at hx, fun x hx => HPOS.out x (by simpa using hx), IntRow.nil _ _, Below.refl _ _⟩
  case round =>
    obtain ⟨j, last, xs, hj, hxs, rfl, rfl, h1, h2, hrow, hB⟩ := hrel
    have HXS := Lib.hid hxs
    have H1 := Lib.hid h1
    have H2 := Lib.hid h2
    have HROW := Lib.hid hrow
    have HB := Lib.hid hB
    have d2 := bcell hB c2
    have hNX := HN.out j last hj h1 h2
    have HNX := Lib.hid hNX
    clear h1 h2 hrow hB hNX hxs
    go_wp2_with fail
    go_loop [5, 6] (fun a c => ∃ i : Nat, i ≤ R.length ∧ c = .int .i64 i ∧ a = .int .i64 (nxt last (R.take i))) (fun _ c => R.length - (intOf c).toNat)
    case atStart => exact ⟨0, by omega, rfl, rfl⟩
    case round =>
      obtain ⟨i, hi, rfl, rfl⟩ := hrel
      by_cases hlt : i < R.length
      · obtain ⟨g, rfl, _, hg9, hcells⟩ := HC.out (by omega)
        obtain ⟨⟨x, ⟨e1, e2, e3, e4, e5, e6⟩⟩, hs⟩ : ∃ q, R[i]? = some q := ⟨_, List.getElem?_eq_getElem hlt⟩
        obtain ⟨m1, m2, m3, m4, m5, m6, m7⟩ := hcells i _ _ _ _ _ _ _ hs
        have z1 := bcell HB.out m1
        have z2 := bcell HB.out m2
        have hS : nxt last (R.take (i + 1)) = nstep last (nxt last (R.take i)) (x, ⟨e1, e2, e3, e4, e5, e6⟩) := by rw [take_snoc hs, nxt_snoc]
        have HS := Lib.hid hS
        obtain ⟨a, ha⟩ : ∃ a, nxt last (R.take i) = a := ⟨_, rfl⟩
        rw [ha] at HS ⊢
        clear m1 m2 m3 m4 m5 m6 m7 hcells hs hS ha
        cases e1 with
        | true =>
          go_wp2_with fail
          go_round
          case rel => exact ⟨i + 1, by omega, by go_num, by rw [HS.out]; unfold nstep; rw [if_neg (by simp)]⟩
          case measure => simp [intOf]; omega
        | false =>
          cases ha1 : decide (x > last) with
          | false =>
            have hx1 : ¬ last < x := by simp at ha1; omega
            have HX1 := Lib.hid hx1
            clear hx1
            go_wp2_with fail
            go_round
            case rel => exact ⟨i + 1, by omega, by go_num, by rw [HS.out]; unfold nstep; rw [if_neg (fun hc => HX1.out hc.2.1)]⟩
            case measure => simp [intOf]; omega
          | true =>
            cases ha2 : decide (x < a) with
            | false =>
              have hx1 : ¬ x < a := by simpa using ha2
              have HX1 := Lib.hid hx1
              clear hx1
              go_wp2_with fail
              go_round
              case rel => exact ⟨i + 1, by omega, by go_num, by rw [HS.out]; unfold nstep; rw [if_neg (fun hc => HX1.out hc.2.2)]⟩
              case measure => simp [intOf]; omega
            | true =>
              have hx1 : last < x ∧ x < a := ⟨by simpa using ha1, by simpa using ha2⟩
              have HX1 := Lib.hid hx1
              clear hx1
              go_wp2_with fail
              go_round
              case rel => exact ⟨i + 1, by omega, by go_num, by rw [HS.out]; unfold nstep; rw [if_pos ⟨rfl, HX1.out⟩]⟩
              case measure => simp [intOf]; omega
      · have e : i = R.length := by omega
        subst e
        rw [List.take_length]
        rcases HNX.out with ⟨ej, en⟩ | ⟨hjl, en, hn4, hk1, hk2⟩
        · rw [en]
          have hr := HROW.out
          rw [HXS.out, ej, List.take_length] at hr
          clear en HNX
          go_wp2_with fail
          go_returns
          exact ⟨_, rfl, hr, HB.out⟩
        · rw [en] at hn4 ⊢
          obtain ⟨y, hy⟩ : ∃ y, (opn s.L)[j] = y := ⟨_, rfl⟩
          have HT : Hid (xs ++ [y] = (opn s.L).take (j + 1)) := by rw [Hid, List.take_succ_eq_append_getElem hjl, hy, HXS.out]
          rw [hy] at hn4 hk1 hk2 ⊢
          have hn4' : ((y : Int) == 4096) = false := by simp; omega
          have K1 := Lib.hid hk1
          have K2 := Lib.hid hk2
          have hB0 := HB.out.size
          have hjt : xs.length ≤ j := by rw [HXS.out]; exact List.length_take_le _ _
          clear en HNX hy hk1 hk2 hn4
          go_wp2_with (first
            | (at_builtin; go_must (refine wpList_app rfl _ _ 39 rfl w.heap.size 3 i0 (.int .i64 0) 1 8 Try.underlying39 HI.out HZ0.out HZ1.out HZ2.out rfl (by decide) _ _ _ rfl (World.ownsRow.alloc HROW.out _) (some ⟨wr.heap.size, 0, none⟩) 1 1 [.int .i64 y] rfl (by simp) (by omega) (reads_new _ _ [.int .i64 y] 1 1 rfl) (by intro u hu; simp at hu; subst hu; simp [Value.oneCell']) (by unfold maxLen; omega) (by omega) (by simp; omega) ?_)))
          intro v' w4 hown hgrow _
          have hne1 : ∀ k', some k' = _ → w.heap.size ≤ k' := fun k' hk' => (World.ownsRow.lt HROW.out k' hk'.symm).1
          have hown' : IntRow w4 w.heap.size v' (xs ++ [y]) := by
            unfold IntRow
            rw [List.length_append, List.map_append]
            exact hown
          have hB4 := (HB.out.alloc HB.out.size _).grown hgrow (by simp; omega) (fun k' ek => by have := hne1 k' ek.symm; omega)
          have O4 := Lib.hid hown'
          have B4 := Lib.hid hB4
          clear hown hgrow hne1 hown' hB4
          go_wp2_with fail
          go_roundg ((opn s.L).length - (j + 1))
          case measure => omega
          case rel => exact ⟨j + 1, y, xs ++ [y], by omega, HT.out, rfl, rfl, K1.out, K2.out, O4.out, B4.out⟩

/-! ### Copy -/
def RLCopyPost (s : LSt) (w : World) (e : Ending) (w' : World) : Prop :=
  ∃ q' v' R', e = .returned (.pointer (some ⟨q', 0, none⟩)) ∧ RLAt w' q' v' s R' ∧ w.heap.size ≤ q' ∧ Below w.heap.size w w'
theorem step_app {P : Program} {w : World} {ops : Array Oper} {o : Oper} {a : Act} {K : Act → World → Prop} {Q : Exit → Act → World → Prop} {E : Prop} (hgd : o.guard = none) (s x : Operand) (t : TypeId)
    (ho : o.op = .call { callee := .builtin .append, args := #[s, x], argTypes := #[t, t] })
    (base : Nat) (e : TypeId) (i : TypeInfo) (z : Value) (size bytes : Nat) (ht : P.underlying t = some (.slice e)) (hi : P.info? e = some i) (hz : i.zero = some z)
    (hsize : i.size = size) (hby : i.bytes = bytes) (hzs : z.cells.size = size) (hsz : 0 < size)
    (v : Value) (n : Nat) (xs : List Value) (hs : a.eval s = v) (hown : w.ownsRow base e size v n xs)
    (ad : Addr) (m c : Nat) (news : List Value) (hx : a.eval x = .slice (some ad) m c) (hl : news.length = m * size) (hnews : ∀ j u, news[j]? = some u → w.cell? (ad.add j) = some u) (h1 : ∀ u ∈ news, u.oneCell')
    (h63 : n + m ≤ maxLen) (hbytes : (n + m) * bytes ≤ 140737488355328) (hbase : base ≤ w.heap.size)
    (h : ∀ v' w', w'.ownsRow base e size v' (n + m) (xs ++ news) → w.grownBy w' v.ownBlock → K (a.put o.dst v') w') :
    if Region.wanted o (yielded ops a.tmps) = true then Oper.wp P o a w K Q else E := by
  have hw : Region.wanted o (yielded ops a.tmps) = true := by simp [Region.wanted, hgd]
  rw [if_pos hw]
  exact wp_append_own w s x t ho base e i z size bytes ht hi hz hsize hby hzs hsz v n xs hs hown ad m c news hx hl hnews h1 h63 hbytes hbase fun v' w' h2 h3 _ => h v' w' h2 h3

set_option maxRecDepth 100000 in
set_option maxHeartbeats 2000000 in
theorem rlcopy_any (q : Nat) (v : Value) (s : LSt) (R : KL) (w : World) (h : RLAt w q v s R) :
    Calls Try.prog 26 #[.pointer (some ⟨q, 0, none⟩)] w (RLCopyPost s w) := by
  have c0 := h.c0
  have c1 := h.c1
  have c2 := h.c2
  have hqw := h.blk.lt
  have HGD := Lib.hid h.good
  have HPM := Lib.hid h.perm
  have hl := h.len
  obtain ⟨i0, hi, hz0, hz1, hz2⟩ := info_parts info_kn
  have HI := Lib.hid hi
  have HZ0 := Lib.hid hz0
  have HZ1 := Lib.hid hz1
  have HZ2 := Lib.hid hz2
  clear hi hz0 hz1 hz2
  have hview := row_view2 h.row
  clear h
  rcases hview with ⟨rfl, hn, _⟩ | ⟨g, cap, rfl, hle, hm, _, hg1, hrd, hcells⟩
  · have hn0 : R = [] := List.length_eq_zero_iff.1 hn
    clear hn hl
    go_enter Try.func26, Try.ntmps26
    go_wp2_with fail
    go_region_held3 (fun W => W.cell? ⟨q, 0, none⟩ = some (.int .i64 (s.n : Int)) ∧ W.cell? ⟨q, 1, none⟩ = some (.int .i64 s.base) ∧ W.cell? ⟨q, 2, none⟩ = some (.slice none 0 0))
      (first | exact ⟨by assumption, by assumption, by assumption⟩ | go_keep)
      (first | fail)
    go_wp2_with fail
    go_returns
    have h1 : Blk ((w.alloc (.cells #[] 87)).alloc (.cells #[.int .i64 (s.n : Int), .int .i64 s.base, .slice (some ⟨w.heap.size, 0, none⟩) 0 0] 84)) (w.heap.size + 1) 84 #[.int .i64 (s.n : Int), .int .i64 s.base, .slice (some ⟨w.heap.size, 0, none⟩) 0 0] := by
      have := Blk.new (w.alloc (.cells #[] 87)) 84 #[.int .i64 (s.n : Int), .int .i64 s.base, .slice (some ⟨w.heap.size, 0, none⟩) 0 0]
      rwa [World.size_alloc] at this
    have h2 := World.ownsRow.alloc (row_empty w 87 7) (.cells #[.int .i64 (s.n : Int), .int .i64 s.base, .slice (some ⟨w.heap.size, 0, none⟩) 0 0] 84)
    have h3 : Below w.heap.size w ((w.alloc (.cells #[] 87)).alloc (.cells #[.int .i64 (s.n : Int), .int .i64 s.base, .slice (some ⟨w.heap.size, 0, none⟩) 0 0] 84)) := ((Below.refl _ w).alloc (Nat.le_refl _) _).alloc (by simp) _
    refine ⟨w.heap.size + 1, .slice (some ⟨w.heap.size, 0, none⟩) 0 0, R, rfl, ⟨h1, ?_, HPM.out, HGD.out⟩, by omega, h3.drew⟩
    rw [hn0]
    exact row_lower h2 (Nat.zero_le _)
  · have HC := Lib.hid hcells
    clear hcells hrd
    go_enter Try.func26, Try.ntmps26
    go_wp2_with fail
    have hbw : Below w.heap.size w (w.drew.alloc (.cells #[] 87)) := ((Below.refl _ w).drew).alloc (Nat.le_refl _) _
    have HBW := Lib.hid hbw
    clear hbw
    go_region_held3 (fun W => W.cell? ⟨q, 0, none⟩ = some (.int .i64 (s.n : Int)) ∧ W.cell? ⟨q, 1, none⟩ = some (.int .i64 s.base) ∧ W.cell? ⟨q, 2, none⟩ = some (.slice (some ⟨g, 0, none⟩) R.length cap))
      (first | exact ⟨by assumption, by assumption, by assumption⟩ | go_keep)
      (first | (refine step_app rfl _ _ 82 rfl w.heap.size 87 i0 knZ 7 72 Try.underlying82 HI.out HZ0.out HZ1.out HZ2.out rfl (by decide) _ 0 [] rfl (row_empty w.drew 87 7) ⟨g, 0, none⟩ R.length cap (cellsN R) rfl (cellsN_length R) (fun j u hu => by rw [add_zero_spot]; exact bcell HBW.out (HC.out j u hu)) (cellsN_one _) (by unfold maxLen; omega) (by omega) (by simp) ?_; intro v1 w1 hown1 hgrow1; have hb1 : Below w.heap.size w w1 := HBW.out.grown hgrow1 (by simp) (fun j ej => by cases ej; exact Nat.le_refl _); have q0 := bcell hb1 c0; have q1 := bcell hb1 c1; have q2 := bcell hb1 c2; obtain ⟨A1, k1, hv1, _⟩ := row_view hown1; subst hv1; have HO1 := Lib.hid hown1; clear hown1 hgrow1))
    go_wp2_with fail
    go_returns
    have ho := HO1.out
    rw [Nat.zero_add, List.nil_append] at ho
    refine ⟨_, _, R, rfl, ⟨Blk.new _ _ _, row_lower (World.ownsRow.alloc ho _) (Nat.zero_le _), HPM.out, HGD.out⟩, hb1.size, hb1.alloc hb1.size _⟩
end Go.Proofs.Ytnnadpbfidfhoaa
