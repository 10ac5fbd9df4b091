/- Package clock: Tick. -/
import Derived.Test.YtmojdafegljghaaClockB
import Derived.Deep.DeepMust
set_option linter.unusedVariables false
set_option linter.unusedSimpArgs false
namespace Go.Proofs.Ytmojdafegljghaa
open Go.RowKit Go.Maps Go.Shelf

section
variable {P : Program} (w : World) {ops : Array Oper} {rest : List Oper} {o : Oper} {a : Act} {Q : Exit → Act → World → Prop}
/-- The step of a range over a map of ints. -/
theorem wpList_next_enc (hg : o.guard = none) (it : Operand) (hop : o.op = Op.next it false) (k : TypeId) (hk : P.underlying k = some (.int .i64))
    (b r n : Nat) (L : List (Int × Int)) (left : Lit → Bool) (cnt : Nat) (hit : a.eval it = .pointer (some ⟨r, 0, none⟩)) (h : w.ranges P k RV b r n (dat (enc L)) left cnt)
    (hDone : cnt = 0 → (∀ kl, left kl = false) → wpList P ops Q rest (a.put o.dst (.tuple #[.bool false])) w)
    (hMore : ∀ (x e : Int) (w' : World) (cnt' : Nat), (Lit.int .i64 x).wf = true → left (.int .i64 x) = true → get x L = some e → w'.ranges P k RV b r n (dat (enc L)) (fun z => left z && !z.sameKey (.int .i64 x)) cnt' → cnt' < cnt →
      w.grownBy w' (some r) → w'.heap.size = w.heap.size → (Instr.entry (.pointer (some ⟨r, 0, none⟩))).run P w' = .ok (.tuple #[.int .i64 x, .int .i64 e]) w' → wpList P ops Q rest (a.put o.dst (.tuple #[.bool true, .int .i64 x, .int .i64 e])) w') :
    wpList P ops Q (o :: rest) a w := by
  refine wpList_plain hg fun K' hK' => ?_
  unfold Oper.wp
  rcases h.next (int_keyed hk) o.type with ⟨h0, hl, hrun⟩ | ⟨key, v, kl, y, w', cnt', hkey, hlk, hv, hat, hrun, hrg, hlt, hgr, hsz, hen⟩
  · simp [execOp, hop, hit, hrun, Result.andThen]
    exact hK' _ _ (hDone h0 hl)
  · obtain ⟨x, rfl, rfl, hwx⟩ := Maps.keyOf_int_inv hk hkey
    have hy : y = (.held v, []) := by simpa [RV] using hv.symm
    subst hy
    have h1 := hat (.held (.bool true))
    have h2 := hat (.held (.bool false))
    rw [dat_atKey, get_enc] at h1 h2
    cases hq : get x L with
    | none => rw [hq] at h1 h2; simp at h1 h2; rw [← h1] at h2; simp at h2
    | some e =>
      rw [hq] at h1
      simp at h1
      subst h1
      simp [execOp, hop, hit, hrun, Result.andThen]
      exact hK' _ _ (hMore x e w' cnt' hwx hlk hq hrg hlt hgr hsz hen)
end

/-! ### The plain law -/
def outT (now : Int) (L : List (Int × Int)) : List Int := keys (L.filter fun p => decide (p.2 ≤ now + 1))
def restT (now : Int) (L : List (Int × Int)) : List (Int × Int) := L.filter fun p => !decide (p.2 ≤ now + 1)

/-- What has been collected when 'left' are still to come. -/
structure Acc (t : Int) (L : List (Int × Int)) (acc : List Int) (left : Lit → Bool) : Prop where
  nodup : acc.Nodup
  mem : ∀ x, x ∈ acc ↔ ∃ e, get x L = some e ∧ left (.int .i64 x) = false ∧ e ≤ t
theorem Acc.start (t : Int) (L : List (Int × Int)) : Acc t L [] (Maps.has (dat (enc L))) :=
  ⟨List.nodup_nil, fun x => ⟨fun h => by simp at h, fun ⟨e, h1, h2, _⟩ => by rw [dat_has, get_enc, h1] at h2; simp at h2⟩⟩
theorem Acc.yes {t : Int} {L : List (Int × Int)} {acc : List Int} {left : Lit → Bool} {x e : Int} (h : Acc t L acc left) (hl : left (.int .i64 x) = true) (hg : get x L = some e) (he : e ≤ t) :
    Acc t L (acc ++ [x]) (fun z => left z && !z.sameKey (.int .i64 x)) := by
  refine ⟨?_, fun y => ?_⟩
  · refine List.nodup_append.2 ⟨h.nodup, by simp, fun a ha b hb => ?_⟩
    simp at hb
    subst hb
    rintro rfl
    obtain ⟨_, _, h2, _⟩ := (h.mem a).1 ha
    rw [hl] at h2
    cases h2
  · rw [List.mem_append, h.mem y]
    simp only [List.mem_singleton, same_eq]
    constructor
    · rintro (⟨e', h1, h2, h3⟩ | rfl)
      · exact ⟨e', h1, by simp [h2], h3⟩
      · exact ⟨e, hg, by simp, he⟩
    · rintro ⟨e', h1, h2, h3⟩
      by_cases hy : y = x
      · exact .inr hy
      · refine .inl ⟨e', h1, ?_, h3⟩
        have : (y == x) = false := by simpa using hy
        simpa [this] using h2
theorem Acc.no {t : Int} {L : List (Int × Int)} {acc : List Int} {left : Lit → Bool} {x e : Int} (h : Acc t L acc left) (hl : left (.int .i64 x) = true) (hg : get x L = some e) (he : ¬ e ≤ t) :
    Acc t L acc (fun z => left z && !z.sameKey (.int .i64 x)) := by
  refine ⟨h.nodup, fun y => ?_⟩
  rw [h.mem y]
  simp only [same_eq]
  constructor
  · rintro ⟨e', h1, h2, h3⟩
    exact ⟨e', h1, by simp [h2], h3⟩
  · rintro ⟨e', h1, h2, h3⟩
    by_cases hy : y = x
    · subst hy
      rw [hg] at h1
      cases h1
      exact absurd h3 he
    · refine ⟨e', h1, ?_, h3⟩
      have : (y == x) = false := by simpa using hy
      simpa [this] using h2
theorem Acc.done {now : Int} {L : List (Int × Int)} {acc : List Int} {left : Lit → Bool} (h : Acc (now + 1) L acc left) (hs : Srt L) (hl : ∀ k, left k = false) : acc.mergeSort leB = outT now L := by
  have hsf : Srt (L.filter fun p => decide (p.2 ≤ now + 1)) := List.Pairwise.filter _ hs
  refine sort_perm ?_ (keys_sorted hsf)
  refine (List.perm_ext_iff_of_nodup h.nodup ((keys_sorted hsf).imp fun h => by omega)).2 fun x => ?_
  rw [h.mem x]
  simp only [keys, List.mem_map, List.mem_filter, decide_eq_true_eq]
  constructor
  · rintro ⟨e, h1, _, h3⟩
    exact ⟨(x, e), ⟨get_mem h1, h3⟩, rfl⟩
  · rintro ⟨⟨x', e⟩, ⟨h1, h2⟩, rfl⟩
    exact ⟨e, get_of_mem hs h1, hl _, h2⟩
theorem nodup_length : ∀ {xs ys : List Int}, xs.Nodup → (∀ x ∈ xs, x ∈ ys) → xs.length ≤ ys.length
  | [], _, _, _ => Nat.zero_le _
  | x :: xs, ys, h, hs => by
    have h1 := List.nodup_cons.1 h
    have hx := hs x (by simp)
    have := nodup_length (ys := ys.erase x) h1.2 fun y hy => (List.mem_erase_of_ne (by rintro rfl; exact h1.1 hy)).2 (hs y (by simp [hy]))
    rw [List.length_erase_of_mem hx] at this
    have := List.length_pos_of_mem hx
    simp
    omega
theorem Acc.len {t : Int} {L : List (Int × Int)} {acc : List Int} {left : Lit → Bool} (h : Acc t L acc left) : acc.length ≤ L.length := by
  have : acc.length ≤ (keys L).length := by
    refine nodup_length h.nodup fun x hx => ?_
    obtain ⟨e, h1, _⟩ := (h.mem x).1 hx
    exact List.mem_map.2 ⟨_, get_mem h1, rfl⟩
  simpa [keys] using this
/-- The rest when k of the keys xs have been deleted. -/
def restK (xs : List Int) (k : Nat) (L : List (Int × Int)) : List (Int × Int) := L.filter fun p => !(xs.take k).contains p.1
theorem restK_zero (xs : List Int) (L : List (Int × Int)) : restK xs 0 L = L := by simp [restK]
theorem restK_succ {xs : List Int} {k : Nat} {x : Int} (hx : xs[k]? = some x) (L : List (Int × Int)) : del x (restK xs k L) = restK xs (k + 1) L := by
  unfold del restK
  rw [List.filter_filter]
  refine List.filter_congr fun p _ => ?_
  rw [List.take_add_one, hx]
  simp only [List.contains_append, Option.toList_some, List.contains_cons, List.contains_nil, Bool.or_false, Bool.not_or]
  rw [Bool.and_comm]
  rfl
theorem restK_all {now : Int} {L : List (Int × Int)} (hs : Srt L) : restK (outT now L) (outT now L).length L = restT now L := by
  unfold restK restT
  rw [List.take_length]
  refine List.filter_congr fun p hp => ?_
  congr 1
  rw [Bool.eq_iff_iff, List.contains_iff_mem, decide_eq_true_eq]
  simp only [outT, keys, List.mem_map, List.mem_filter, decide_eq_true_eq]
  constructor
  · rintro ⟨q, ⟨h1, h2⟩, h3⟩
    have := (get_of_mem hs (show (p.1, q.2) ∈ L by rw [← h3]; exact h1)).symm.trans (get_of_mem hs (show (p.1, p.2) ∈ L from hp))
    simp at this
    rw [← this]; exact h2
  · intro h
    exact ⟨p, ⟨hp, h⟩, rfl⟩

set_option maxRecDepth 100000 in
set_option maxHeartbeats 1000000 in
theorem tick_any (p m : Nat) (now : Int) (L : List (Int × Int)) (w : World) (h : TabAt w p m now L) (hg : Good now L) (hb : now < 1000000) :
    Calls Try.prog 13 #[.pointer (some ⟨p, 0, none⟩)] w fun e w' => ∃ v, e = .returned v ∧ IntRow w' w.heap.size v (outT now L) ∧ TabAt w' p m (now + 1) (restT now L) ∧ Fr (S2 p m) w w' := by
  have c0 := h.c0
  have c1 := h.c1
  have f0 := h.blk.frozen 0
  have hne := h.ne
  obtain ⟨n1, n2, n3, n4, n5, _⟩ := hg
  have HN5 := Lib.hid n5
  clear n5
  have hpl := h.blk.lt
  have hml := h.map.lt
  have HN4 := Lib.hid n4
  clear n4
  obtain ⟨i0, hi, hz0, hz1, hz2⟩ := info_parts info_int
  have HI := Lib.hid hi
  have HZ0 := Lib.hid hz0
  have HZ1 := Lib.hid hz1
  have HZ2 := Lib.hid hz2
  clear hi hz0 hz1 hz2
  have HT := Lib.hid h
  clear h
  -- the world behind 't.now++'
  have b1 := (HT.out.blk.set 0 (.int .i64 (now + 1)))
  have m1 := HT.out.map.of_block (w' := w.setCell ⟨p, 0, none⟩ (.int .i64 (now + 1))) (Below.heap_setCell w ⟨p, 0, none⟩ _ m (fun e => hne e.symm))
  have hF1 : Fr (S2 p m) w (w.setCell ⟨p, 0, none⟩ (.int .i64 (now + 1))) := (Fr.refl _ w).setCell (.inl (.inl rfl)) _
  have hsz1 : (w.setCell ⟨p, 0, none⟩ (.int .i64 (now + 1))).heap.size = w.heap.size := by simp [World.setCell]
  have HB1 := Lib.hid b1
  have HM1 := Lib.hid m1
  have HF1 := Lib.hid hF1
  have d1 := HB1.out.cell (i := 1) (v := .map (some m)) rfl
  clear b1 m1 hF1
  go_enter Try.func13, Try.ntmps13
  go_wp2_with (first
    | (go_at_call 28; refine (tvalid p m _ c1).mono ?_; rintro e w' ⟨rfl, rfl⟩)
    | (at_range; refine wpList_range_own _ rfl _ 46 rfl 3 2 (int_keyed Try.underlying3) Try.underlying46 RV m _ (dat (enc L)) rfl HM1.out ?_; rintro w2 hr2 hg2 hs2))
  go_frame
  generalize hW1 : w.setCell ⟨p, 0, none⟩ (.int .i64 (now + 1)) = W1 at *
  clear hW1
  obtain ⟨r, hrr⟩ : ∃ r, r = W1.heap.size := ⟨_, rfl⟩
  rw [← hrr] at hr2 ⊢
  have hB2 : Below W1.heap.size W1 w2 := ⟨hg2.os, hg2.tape, hg2.output, hg2.size, fun i hi => hg2.block i hi (by simp)⟩
  have HB2 := Lib.hid hB2
  have hrw : w.heap.size ≤ r := by omega
  have hw2 : w2.heap.size = r + 1 := by omega
  have HHR := Lib.hid hrr
  have HR2 := Lib.hid hr2
  clear hB2 hr2 hg2 hs2 hrr
  go_loopw [3, 4, 5] (fun v _ _ wr => ∃ (acc : List Int) (left : Lit → Bool) (cnt : Nat), wr.ownsRow (r + 1) 3 1 v acc.length (acc.map (Value.int .i64)) ∧ wr.ranges Try.prog 3 RV m r _ (dat (enc L)) left cnt ∧ Acc (now + 1) L acc left ∧ Below r W1 wr ∧ r + 1 ≤ wr.heap.size)
    (fun _ _ _ wr => wr.rangeLeft m r)
  case atStart => exact ⟨[], _, _, World.ownsRow_nil _ _ _ _, HR2.out, Acc.start _ _, by rw [HHR.out]; exact HB2.out, by omega⟩
  case round =>
    obtain ⟨acc, left, cnt, hrow, hrg, hacc, hB, hsz⟩ := hrel
    have HACC := Lib.hid hacc
    have hal := hacc.len
    have hcnt := hrg.left_eq
    have HCNT := Lib.hid hcnt
    clear hacc hcnt
    have e0 : wr.cell? ⟨p, 0, none⟩ = some (.int .i64 (now + 1)) := (HB1.out.of_block (hB.block p (by omega))).cell rfl
    have e1 : wr.cell? ⟨p, 1, none⟩ = some (.map (some m)) := (HB1.out.of_block (hB.block p (by omega))).cell rfl
    have HROW := Lib.hid hrow
    have HRG := Lib.hid hrg
    clear hrow hrg
    go_wp2_with (first
      | (at_next; refine wpList_next_enc _ rfl _ rfl 3 Try.underlying3 m r _ L left cnt rfl HRG.out ?_ ?_))
    · -- NO ENTRY IS LEFT
      intro h0 hl
      have hout : acc.mergeSort leB = outT now L := HACC.out.done HN4.out hl
      have hlen : acc.length = (outT now L).length := by rw [← hout]; simp
      obtain ⟨A, cap, hv, hcap, _⟩ := IntRow.view (show IntRow wr (r + 1) _ acc from HROW.out)
      subst hv
      have hlt := HROW.out.lt
      have HOUT := Lib.hid hout
      have HLEN := Lib.hid hlen
      clear h0 hl hout hlen
      go_wp2_with (first
        | (go_at_call 29; refine (isort (r + 1) _ acc _ HROW.out (by omega)).mono ?_; rintro e w3 ⟨rfl, hr3, hf3⟩))
      rw [HOUT.out] at hr3
      have hlt' : ∀ k, rowS (.slice A acc.length cap) k → r + 1 ≤ k := fun k hk => (hlt k hk).1
      have b3 : Blk w3 p 48 #[.int .i64 (now + 1), .map (some m)] := (HB1.out.of_block (hB.block p (by omega))).fr hf3 (fun hk => by have := hlt' p hk; omega)
      have m3 : MapIs Try.prog 3 w3 m (enc L) := (HM1.out.of_block (hB.block m (by omega))).of_block (hf3.block m (by omega) (fun hk => by have := hlt' m hk; omega))
      have f3 : Fr (S2 p m) w w3 := HF1.out.trans' (T := fun i => r ≤ i) (Fr.trans' (S := fun i => r ≤ i) ⟨hB.os, hB.tape, hB.output, by omega, fun i hi hs => hB.block i (by show i < r; omega)⟩ hf3 (fun i hi hk => by have := hlt' i hk; omega)) (fun i hi hk => by omega)
      have hs3 : r + 1 ≤ w3.heap.size := Nat.le_trans hsz hf3.size
      obtain ⟨A', cap', hv', hcap', hcells⟩ := hr3.view
      rw [← HLEN.out] at hv'
      cases hv'
      have HC := Lib.hid hcells
      have HB3 := Lib.hid b3
      have HM3 := Lib.hid m3
      have HF3 := Lib.hid f3
      have HR3 := Lib.hid hr3
      have hlen2 : acc.length ≤ 1000 := by omega
      clear hcells b3 m3 f3 hr3 hf3 hlt hlt'
      go_loopw [7, 42] (fun _ c w4 => ∃ k : Nat, k ≤ acc.length ∧ c = .int .i64 k ∧ MapIs Try.prog 3 w4 m (enc (restK (outT now L) k L)) ∧ Fr (S1 m) w3 w4)
        (fun _ c _ => acc.length - (intOf c).toNat)
      case atStart => exact ⟨0, by omega, rfl, by rw [restK_zero]; exact HM3.out, Fr.refl _ _⟩
      case round =>
        obtain ⟨k, hk, rfl, hmk, hfk⟩ := hrel
        have HMK := Lib.hid hmk
        have HFK := Lib.hid hfk
        clear hmk hfk
        by_cases hlt : k < acc.length
        · obtain ⟨g, rfl, hg1, hg2, hg3⟩ := HC.out (by have := HLEN.out; omega)
          obtain ⟨x, hx⟩ : ∃ x, (outT now L)[k]? = some x := ⟨_, List.getElem?_eq_getElem (by have := HLEN.out; omega)⟩
          have hcx := HFK.out.cell (p := ⟨g, k, none⟩) (fun e => by have e : g = m := e; omega) (hg3 k x hx)
          have hwx : (Lit.int .i64 x).wf = true := by
            have hm := List.mem_of_getElem? hx
            simp only [outT, keys, List.mem_map, List.mem_filter] at hm
            obtain ⟨q, ⟨hq, _⟩, rfl⟩ := hm
            exact wf64 (HN5.out q hq)
          have d1 : wr.cell? ⟨p, 1, none⟩ = some (.map (some m)) := (HB3.out.fr HFK.out (fun e => hne e)).cell rfl
          have HX := Lib.hid hx
          clear hx hg3
          go_wp2_with (first
            | (at_delete; refine wpList_del _ rfl _ _ 46 3 rfl 2 Try.underlying3 Try.underlying46 m _ rfl HMK.out x rfl hwx ?_; rintro w5 hm5 hg5 hs5))
          rw [del_enc, restK_succ HX.out] at hm5
          go_roundw
          case rel => exact ⟨k + 1, by omega, by go_num, hm5, HFK.out.trans (Fr.of_grown hg5 (fun i e => by cases e; rfl))⟩
          case measure => simp [intOf]; omega
        · have e : k = (outT now L).length := by have := HLEN.out; omega
          subst e
          go_wp2
          go_ret
          have hm4 := HMK.out
          rw [restK_all HN4.out] at hm4
          refine ⟨_, rfl, ?_, ⟨HB3.out.fr HFK.out (fun e => hne e), hm4⟩, HF3.out.trans (HFK.out.mono (fun i e => .inr e))⟩
          exact (HR3.out.fr HFK.out (fun i e => by have e : i = m := e; omega)).lower (by omega)
    · -- ONE MORE
      rintro x e w3 cnt' hwx hlx hget hrg3 hlt3 hg3 hs3 hen
      have hrow3 := HROW.out.kept hg3 (by
        refine .inr fun h => ?_
        have := (HROW.out.lt r h).1
        omega)
      have e0' : w3.cell? ⟨p, 0, none⟩ = some (.int .i64 (now + 1)) := (World.cell?_of_block (hg3.block p (by omega) (by simp; omega))).trans e0
      have e1' : w3.cell? ⟨p, 1, none⟩ = some (.map (some m)) := (World.cell?_of_block (hg3.block p (by omega) (by simp; omega))).trans e1
      have hB3 : Below r W1 w3 := hB.grown hg3 (by omega) (fun k ek => by cases ek; exact Nat.le_refl _)
      have HRG3 := Lib.hid hrg3
      have HROW3 := Lib.hid hrow3
      have hmr : m < r := by omega
      have hs3' : r + 1 ≤ w3.heap.size := by omega
      clear e0 e1 hrg3 hrow3 hg3 hs3
      by_cases hle : e ≤ now + 1
      · have HN := Lib.hid (HACC.out.yes hlx hget hle)
        clear hlx hget
        go_wp2_with (first
          | (at_builtin; go_must (refine wpList_append_own _ rfl _ _ 28 rfl (r + 1) 3 i0 (.int .i64 0) 1 8 Try.underlying28 HI.out HZ0.out HZ1.out HZ2.out rfl (by decide) _ _ _ rfl (HROW3.out.alloc _) ⟨w3.heap.size, 0, none⟩ 1 1 [.int .i64 x] rfl rfl (cell_one_new _ _ _) (by simp [Value.oneCell']) (by unfold maxLen; omega) (by omega) (by simp; omega) ?_); intro v' w4 hown' hgrow _))
        have hne1 : ∀ k, some k = _ → r + 1 ≤ k := fun k hk => (HROW3.out.lt k hk.symm).1
        have hrg4 := (HRG3.out.alloc _).kept hgrow (fun e => by have := hne1 m e; omega) (fun e => by have := hne1 r e; omega)
        have hsz4 := hgrow.size
        go_roundw
        case rel => exact ⟨acc ++ [x], _, cnt', by simpa using hown', hrg4, HN.out, (hB3.alloc (by omega) _).grown hgrow (by simp; omega) (fun k ek => by have := hne1 k ek.symm; omega), by simp at hsz4; omega⟩
        case measure => rw [hrg4.left_eq, HCNT.out]; exact hlt3
      · have HN := Lib.hid (HACC.out.no hlx hget hle)
        clear hlx hget
        go_wp2
        go_roundw
        case rel => exact ⟨acc, _, cnt', HROW3.out, HRG3.out, HN.out, hB3, by omega⟩
        case measure => rw [HRG3.out.left_eq, HCNT.out]; exact hlt3
end Go.Proofs.Ytmojdafegljghaa
