/- slices.DeleteFunc of votes: those of one slot stay. -/
import Derived.Test.YthkdmpalhdifbaaGreatDoorStabC
import Derived.Test.YthkdmpalhdifbaaGreatDoorRefA
import Derived.Laws.IdiomCopy
set_option linter.unusedVariables false
set_option linter.unusedSimpArgs false
namespace Go.Proofs.YthkdmpalhdifbaaGreatDoor
open Go.RowKit Go.Maps Go.Shelf Go.Sort

def notAt (s : Int) (x : Vt) : Bool := x.sl != s
abbrev delV (bs : Nat) : Value := .func (.func 27) #[] #[.pointer (some ⟨bs, 0, none⟩)]
set_option maxRecDepth 100000 in
theorem del_any (xn xr xd xs : Int) (xv : ByteArray) (bs : Nat) (s : Int) (w : World) (h : w.cell? ⟨bs, 0, none⟩ = some (.int .i64 s)) :
    Calls Tryz.prog 27 #[.agg #[.int .i64 xn, .int .i64 xr, .int .i64 xd, .int .i64 xs, .string xv], .pointer (some ⟨bs, 0, none⟩)] w fun e w' => e = .returned (.bool (xs != s)) ∧ Below w.heap.size w w' := by
  have h1 := bcell (box_below w (.cells #[.int .i64 xn, .int .i64 xr, .int .i64 xd, .int .i64 xs, .string xv] 35)) h
  clear h
  go_enter Tryz.func27, Tryz.ntmps27
  go_wp2_with fail
  go_returns
  exact ⟨rfl, box_below w _⟩
theorem RowB.of_row {w : World} {lo : Nat} {v : Value} {L : List Vt} (h : VtRow w lo v L) (h0 : 0 < L.length) : ∃ g cap, v = .slice (some ⟨g, 0, none⟩) L.length cap ∧ L.length ≤ cap ∧ cap ≤ maxLen ∧ lo ≤ g ∧ RowB encVt w g L := by
  rcases h.2 with ⟨_, hn⟩ | ⟨g, cap, cur, rfl, hb, hg, hle, hcap, hsz, htake⟩
  · omega
  · have hB : Blk w g 35 cur := hg
    refine ⟨g, cap, rfl, hle, hcap, hb, hB.lt, fun t u hu => hB.cell ?_, fun t => hB.frozen t⟩
    have hl : t < L.length * 5 := by have := (List.getElem?_eq_some_iff.1 hu).1; rwa [flat_length (enc := encVt) (k := 5) evl] at this
    rw [← htake, List.getElem?_take, if_pos hl] at hu
    rw [← Array.getElem?_toList]
    exact hu
theorem RowB.votes {w : World} {g cap : Nat} {L : List Vt} (h : RowB encVt w g L) (h1 : L.length ≤ cap) (h2 : cap ≤ maxLen) : VotesIn w (.slice (some ⟨g, 0, none⟩) L.length cap) L := by
  refine ⟨_, cap, rfl, h1, h2, fun h0 => ⟨g, 0, rfl, h.lt, fun i x hx => ?_⟩⟩
  simp only [Nat.zero_add]
  exact h.five hx
set_option maxRecDepth 100000 in
set_option maxHeartbeats 2000000 in
theorem indexDel_any (v : Value) (L : List Vt) (bs : Nat) (s : Int) (w : World) (hv : VotesIn w v L) (h : w.cell? ⟨bs, 0, none⟩ = some (.int .i64 s)) :
    Calls Tryz.prog 48 #[v, delV bs] w fun e w' => ∃ r : Int, e = .returned (.int .i64 r) ∧ ((r = -1 ∧ ∀ x ∈ L, notAt s x = false) ∨ ∃ (i : Nat) (x : Vt), r = (i : Int) ∧ L[i]? = some x ∧ notAt s x = true ∧ ∀ y ∈ L.take i, notAt s y = false) ∧ Below w.heap.size w w' := by
  obtain ⟨A0, cap0, rfl, hcap0, hmax0, hcells⟩ := hv
  have HC := Lib.hid hcells
  have HS := Lib.hid h
  have hml : cap0 ≤ 9223372036854775807 := by unfold maxLen at hmax0; omega
  clear hcells hmax0 h
  go_enter Tryz.func48, Tryz.ntmps48
  go_wp2_with fail
  go_loopg [8] L.length (fun g c wr => ∃ j, j ≤ L.length ∧ g = L.length - j ∧ c = .int .i64 (j : Int) ∧ (∀ y ∈ L.take j, notAt s y = false) ∧ Below w.heap.size w wr)
  case atStart => exact ⟨0, by omega, by omega, rfl, by simp, Below.refl _ _⟩
  case round =>
    obtain ⟨j, hj, rfl, rfl, hno, hB⟩ := hrel
    have NO := Lib.hid hno
    have B := Lib.hid hB
    clear hno hB
    by_cases hlt : j < L.length
    case neg =>
      have e : j = L.length := by omega
      have HR : Hid (∀ x ∈ L, notAt s x = false) := by have := NO.out; rw [e, List.take_length] at this; exact this
      subst e
      go_wp2_with fail
      go_returns
      exact ⟨-1, rfl, .inl ⟨rfl, HR.out⟩, B.out⟩
    case pos =>
    obtain ⟨b0, off, rfl, hb, hcc⟩ := HC.out (by omega)
    obtain ⟨⟨nd, r, d, sl, xv⟩, hx⟩ : ∃ x, L[j]? = some x := ⟨_, List.getElem?_eq_getElem hlt⟩
    obtain ⟨q0, q1, q2, q3, q4⟩ := hcc j _ hx
    simp only at q0 q1 q2 q3 q4
    have q0 := bcell B.out q0
    have q1 := bcell B.out q1
    have q2 := bcell B.out q2
    have q3 := bcell B.out q3
    have q4 := bcell B.out q4
    have HX := Lib.hid hx
    have HS2 := Lib.hid (bcell B.out HS.out)
    obtain ⟨p, hp⟩ : ∃ p, (sl != s) = p := ⟨_, rfl⟩
    have HP := Lib.hid hp
    clear hx hcc hp
    cases p with
    | true =>
      go_wp2_with (go_at_call 27; refine (del_any nd r d sl xv bs s _ HS2.out).mono ?_; rw [HP.out]; rintro e w2 ⟨rfl, b2⟩; have B2 := Lib.hid (bchain B.out b2); clear b2)
      go_returns
      exact ⟨_, rfl, .inr ⟨j, _, rfl, HX.out, HP.out, NO.out⟩, B2.out⟩
    | false =>
      have NO2 : Hid (∀ y ∈ L.take (j + 1), notAt s y = false) := fun y hy => by
        rcases (mem_takeS HX.out).1 hy with hy | rfl
        · exact NO.out y hy
        · exact HP.out
      go_wp2_with (go_at_call 27; refine (del_any nd r d sl xv bs s _ HS2.out).mono ?_; rw [HP.out]; rintro e w2 ⟨rfl, b2⟩; have B2 := Lib.hid (bchain B.out b2); clear b2)
      go_roundg (L.length - (j + 1))
      case measure => omega
      case rel => exact ⟨j + 1, by omega, rfl, by go_num, NO2.out, B2.out⟩
theorem zeroVt0 (w : World) : (zeroValue 35).run Tryz.prog w = .ok (vtV ⟨0, 0, 0, 0, ⟨#[]⟩⟩) w := by kernel_rfl
def zRow (n : Nat) : List Value := (Builtin.zeroCells (vtV ⟨0, 0, 0, 0, ⟨#[]⟩⟩).cells n).toList
theorem zRow_len (n : Nat) : (zRow n).length = n * 5 := by simp [zRow, Builtin.zeroCells, Value.cells]
theorem zRow_one (n : Nat) : ∀ v ∈ zRow n, v.oneCell' = true := fun v hv => by
  have key : ∀ k : Fin 5, (#[Value.int .i64 0, .int .i64 0, .int .i64 0, .int .i64 0, .string ⟨#[]⟩] : Array Value)[k.val]!.oneCell' = true := by decide
  simp only [zRow, Builtin.zeroCells, Array.toList_map, List.mem_map] at hv
  obtain ⟨i, _, rfl⟩ := hv
  exact key ⟨i % 5, Nat.mod_lt _ (by decide)⟩
theorem run_clear_votes (w : World) (ty : TypeId) (b o n c : Nat) (hn : 0 < n) (hc : ∀ j, j < n * 5 → (w.cell? ⟨b, o + j, none⟩).isSome = true) (hf : ∀ j, j < n * 5 → w.frozen? ⟨b, o + j, none⟩ = false) :
    (Builtin.clear_ #[22] ty #[.slice (some ⟨b, o, none⟩) n c]).run Tryz.prog w = .ok (.tuple #[]) (w.setCells b o (zRow n)) := by
  have hst := run_storeCells_cells (P := Tryz.prog) b o (zRow n) 0 w (fun j hj => by rw [Nat.add_zero]; exact hc j (by rwa [zRow_len] at hj)) (fun j hj => by rw [Nat.add_zero]; exact hf j (by rwa [zRow_len] at hj)) (zRow_one n)
  simp only [Nat.add_zero] at hst
  have hz : (Builtin.zeroCells (vtV ⟨0, 0, 0, 0, ⟨#[]⟩⟩).cells n).toList = zRow n := rfl
  obtain ⟨k, rfl⟩ : ∃ k, n = k + 1 := ⟨n - 1, by omega⟩
  simp [Builtin.clear_, run_underlying Tryz.underlying22, zeroVt0, hz, hst]
/-- The first elements stay, where cells behind them are written. -/
theorem RowB.front {w : World} {g : Nat} {L : List Vt} (h : RowB encVt w g L) (i : Nat) (vs : List Value) : RowB encVt (w.setCells g (i * 5) vs) g (L.take i) := by
  refine ⟨by rw [size_setCells]; exact h.lt, fun t u hu => ?_, fun t => by rw [World.frozen?_setCells]; exact h.free t⟩
  have hl := (List.getElem?_eq_some_iff.1 hu).1
  rw [flat_length (enc := encVt) (k := 5) evl, List.length_take] at hl
  have ht : t < i * 5 := by omega
  rw [World.cell?_setCells_out g _ _ _ _ (fun _ _ => .inl (by simpa using ht))]
  refine h.cells t u ?_
  have e : flat encVt L = flat encVt (L.take i) ++ flat encVt (L.drop i) := by
    unfold flat
    rw [← List.flatMap_append, List.take_append_drop]
  rw [e, List.getElem?_append_left (by rw [flat_length (enc := encVt) (k := 5) evl, List.length_take]; exact hl)]
  exact hu
set_option maxRecDepth 100000 in
set_option maxHeartbeats 4000000 in
theorem deleteFunc_any (v : Value) (L : List Vt) (lo bs : Nat) (s : Int) (w : World) (hv : VtRow w lo v L) (hvo : VotesIn w v L) (hlo : lo ≤ w.heap.size) (hbig : L.length ≤ 4294967296) (hs : w.cell? ⟨bs, 0, none⟩ = some (.int .i64 s)) (hbs : bs < lo) :
    Calls Tryz.prog 26 #[v, delV bs] w fun e w' => ∃ v', e = .returned v' ∧ VotesIn w' v' (L.filter fun x => decide (x.sl = s)) ∧ Below lo w w' := by
  have HV := Lib.hid hv
  have HVO := Lib.hid hvo
  have HS := Lib.hid hs
  clear hv hvo hs
  go_enter Tryz.func26, Tryz.ntmps26
  go_upto_region 2 with (go_at_call 48; refine (indexDel_any v L bs s _ HVO.out HS.out).mono ?_; rintro e w2 ⟨r, rfl, hr, b2⟩; have HR := Lib.hid hr; have B2 := Lib.hid b2; clear hr b2)
  have keepF : ∀ x : Vt, decide (x.sl = s) = !notAt s x := fun x => by unfold notAt; by_cases h : x.sl = s <;> simp [h]
  have KF := Lib.hid keepF
  clear keepF
  by_cases hr1 : r = -1
  · subst hr1
    have HF : Hid (L.filter (fun x => decide (x.sl = s)) = L) := by
      rcases HR.out with ⟨_, h⟩ | ⟨i, x, h, _⟩
      · rw [Hid, List.filter_eq_self]
        intro x hx
        rw [KF.out, h x hx]
        rfl
      · omega
    have V2 := Lib.hid (HVO.out.below B2.out)
    go_wp2_with fail
    go_returns
    exact ⟨_, rfl, by rw [HF.out]; exact V2.out, B2.out.mono hlo⟩
  · obtain ⟨i, x, hri, hix, hxn, hno⟩ : ∃ (i : Nat) (x : Vt), r = (i : Int) ∧ L[i]? = some x ∧ notAt s x = true ∧ ∀ y ∈ L.take i, notAt s y = false := by
      rcases HR.out with ⟨h, _⟩ | h
      · exact absurd h hr1
      · exact h
    subst hri
    have hil := (List.getElem?_eq_some_iff.1 hix).1
    obtain ⟨g, cap, rfl, hcap, hmax, hlg, hrb⟩ := RowB.of_row HV.out (by omega)
    have hml : cap ≤ 9223372036854775807 := by unfold maxLen at hmax; omega
    have HMX := Lib.hid hmax
    obtain ⟨N, hN⟩ : ∃ N, L.length = N := ⟨_, rfl⟩
    have R2 := Lib.hid (hrb.bel B2.out)
    have S2 := Lib.hid (bcell B2.out HS.out)
    have HN := Lib.hid hN
    rw [hN] at hcap hil hbig ⊢
    have hgw : g < w2.heap.size := R2.out.lt
    have hgb : bs ≠ g := by omega
    have F0 : Hid ((L.take (i + 1)).filter (fun x => decide (x.sl = s)) = L.take i) := by
      rw [Hid, List.take_add_one, hix, List.filter_append]
      have h1 : (L.take i).filter (fun x => decide (x.sl = s)) = L.take i := by
        rw [List.filter_eq_self]
        intro y hy
        rw [KF.out, hno y hy]
        rfl
      rw [h1]
      have h2 : decide (x.sl = s) = false := by rw [KF.out, hxn]; rfl
      simp [h2]
    have BW : Hid (Below lo w w2) := B2.out.mono hlo
    have hlw : lo ≤ w2.heap.size := by have := B2.out.size; omega
    clear hr1 hix hxn hno hrb hmax hN HR
    go_wp2_with fail
    go_loopg [6, 5] (N - (i + 1)) (fun gh cj ci wr => ∃ (j k : Nat) (M : List Vt), k < j ∧ j ≤ N ∧ gh = N - j ∧ cj = .int .i64 (j : Int) ∧ ci = .int .i64 (k : Int) ∧ M.length = N ∧ (L.take j).filter (fun x => decide (x.sl = s)) = M.take k ∧ M.drop j = L.drop j ∧ RowB encVt wr g M ∧ wr.cell? ⟨bs, 0, none⟩ = some (.int .i64 s) ∧ Fr (S1 g) w2 wr)
    case atStart => exact ⟨i + 1, i, L, by omega, by omega, rfl, by go_num, rfl, HN.out, F0.out, rfl, R2.out, S2.out, Fr.refl _ _⟩
    case round =>
      clear F0 R2 S2 B2
      obtain ⟨j, k, M, hkj, hjN, rfl, rfl, rfl, hml2, hfil, hdr, hrow, hcs, hfr⟩ := hrel
      obtain ⟨wo, rfl⟩ : ∃ wo : World, wo = wr := ⟨_, rfl⟩
      have ML := Lib.hid hml2
      have FIL := Lib.hid hfil
      have DR := Lib.hid hdr
      have RW := Lib.hid hrow
      have CS := Lib.hid hcs
      have F := Lib.hid hfr
      clear hml2 hfil hdr hrow hcs hfr
      by_cases hlt : j < N
      case neg =>
        have e : j = N := by omega
        have HF : Hid (L.filter (fun x => decide (x.sl = s)) = M.take k) := by
          have := FIL.out
          rw [e, ← HN.out, List.take_length] at this
          exact this
        have RF := Lib.hid (RW.out.front k (zRow (N - k)))
        have hkN : k < N := by omega
        have hkc : ¬ cap = k := by omega
        have hkc2 : k ≤ cap := by omega
        have hNk : (N : Int) - (k : Int) = ((N - k : Nat) : Int) := by omega
        have hcl := fun ty => run_clear_votes wo ty g (k * 5) (N - k) (cap - k) (by omega) (fun t ht => by
          have := RW.out.cells (k * 5 + t) _ (List.getElem?_eq_getElem (by rw [flat_length (enc := encVt) (k := 5) evl, ML.out]; omega))
          rw [this]; rfl) (fun t _ => RW.out.free _)
        have VI : Hid (VotesIn (wo.setCells g (k * 5) (zRow (N - k))) (.slice (some ⟨g, 0, none⟩) k cap) (M.take k)) := by
          have h1 : (M.take k).length = k := by rw [List.length_take, ML.out]; omega
          have := RF.out.votes (cap := cap) (by rw [h1]; omega) HMX.out
          rw [h1] at this
          exact this
        have FF : Hid (Fr (S1 g) w2 (wo.setCells g (k * 5) (zRow (N - k)))) := F.out.trans (fr_setCellsK g _ _ _)
        clear hNk e
        go_wp2_with fail
        go_returns
        refine ⟨_, rfl, by rw [HF.out]; exact VI.out, ?_⟩
        exact BW.out.trans (FF.out.below (by omega) (fun i e => by have e : i = g := e; omega))
      case pos =>
      obtain ⟨⟨xn, xr, xd, xs, xv⟩, hx⟩ : ∃ x, L[j]? = some x := ⟨_, List.getElem?_eq_getElem (by rw [HN.out]; exact hlt)⟩
      have hMx : M[j]? = some ⟨xn, xr, xd, xs, xv⟩ := by
        have h1 : (M.drop j)[0]? = (L.drop j)[0]? := by rw [DR.out]
        rw [List.getElem?_drop, List.getElem?_drop, Nat.add_zero] at h1
        rw [h1, hx]
      obtain ⟨q0, q1, q2, q3, q4⟩ := RW.out.five hMx
      simp only at q0 q1 q2 q3 q4
      have HX := Lib.hid hx
      obtain ⟨p, hp⟩ : ∃ p, (xs != s) = p := ⟨_, rfl⟩
      have HP := Lib.hid hp
      have hjc : j < cap := by omega
      clear hx hMx hp
      go_upto_region 8 with fail
      have bw := box_below wo (.cells #[.int .i64 xn, .int .i64 xr, .int .i64 xd, .int .i64 xs, .string xv] 35)
      have KX := Lib.hid (Blk.new wo 35 #[.int .i64 xn, .int .i64 xr, .int .i64 xd, .int .i64 xs, .string xv])
      have R3 := Lib.hid (RW.out.bel bw)
      have C3 := Lib.hid (bcell bw CS.out)
      have F3 := Lib.hid (F.out.trans (Fr.of_below bw))
      have hgl := RW.out.lt
      generalize (wo.alloc (.cells #[.int .i64 xn, .int .i64 xr, .int .i64 xd, .int .i64 xs, .string xv] 35)) = W3 at *
      obtain ⟨bx, hbx⟩ : ∃ bx, bx = wo.heap.size := ⟨_, rfl⟩
      rw [← hbx] at KX hgl ⊢
      have hgx : ¬ bx = g := by omega
      clear hbx bw q0 q1 q2 q3 q4 RW CS F hgl
      have x0 := KX.out.cell (i := 0) (v := .int .i64 xn) rfl
      have x1 := KX.out.cell (i := 1) (v := .int .i64 xr) rfl
      have x2 := KX.out.cell (i := 2) (v := .int .i64 xd) rfl
      have x3 := KX.out.cell (i := 3) (v := .int .i64 xs) rfl
      have x4 := KX.out.cell (i := 4) (v := .string xv) rfl
      go_upto_if 29 with (go_at_call 27; refine (del_any xn xr xd xs xv bs s _ C3.out).mono ?_; rw [HP.out]; rintro e w4 ⟨rfl, b4⟩; have R4 := Lib.hid (R3.out.bel b4); have C4 := Lib.hid (bcell b4 C3.out); have F4 := Lib.hid (F3.out.trans (Fr.of_below b4)); have KX4 := Lib.hid (KX.out.fr (Fr.of_below b4 : Fr S0 _ _) (fun h => h)); clear b4)
      clear x0 x1 x2 x3 x4 KX R3 C3 F3
      have FS : Hid ((L.take (j + 1)).filter (fun x => decide (x.sl = s)) = (L.take j).filter (fun x => decide (x.sl = s)) ++ (if p = true then [] else [⟨xn, xr, xd, xs, xv⟩])) := by
        have h1 : decide ((⟨xn, xr, xd, xs, xv⟩ : Vt).sl = s) = !p := by rw [KF.out]; unfold notAt; rw [HP.out]
        rw [Hid, List.take_add_one, HX.out, List.filter_append]
        simp only [Option.toList_some, List.filter_cons, List.filter_nil, h1]
        cases p <;> rfl
      have D1 : ∀ (M' : List Vt), M'.drop (j + 1) = M.drop (j + 1) → M'.drop (j + 1) = L.drop (j + 1) := fun M' h => by
        rw [h, ← List.drop_drop, ← List.drop_drop, DR.out]
      have HD1 := Lib.hid D1
      clear D1
      cases p with
      | true =>
        have F2 : Hid ((L.take (j + 1)).filter (fun x => decide (x.sl = s)) = M.take k) := by rw [Hid, FS.out, FIL.out]; simp
        have D2 := Lib.hid (HD1.out M rfl)
        go_wp2_with fail
        go_roundg (N - (j + 1))
        case measure => omega
        case rel => exact ⟨j + 1, k, M, by omega, by omega, rfl, by go_num, rfl, ML.out, F2.out, D2.out, R4.out, C4.out, F4.out⟩
      | false =>
        have hkM : k < M.length := by rw [ML.out]; omega
        obtain ⟨⟨yn, yr, yd, ys, yv⟩, hy⟩ : ∃ y, M[k]? = some y := ⟨_, List.getElem?_eq_getElem hkM⟩
        obtain ⟨p0, p1, p2, p3, p4⟩ := R4.out.five hy
        simp only at p0 p1 p2 p3 p4
        have z0 := R4.out.free (k * 5)
        have z1 := R4.out.free (k * 5 + 1)
        have z2 := R4.out.free (k * 5 + 2)
        have z3 := R4.out.free (k * 5 + 3)
        have z4 := R4.out.free (k * 5 + 4)
        have x0 := KX4.out.cell (i := 0) (v := .int .i64 xn) rfl
        have x1 := KX4.out.cell (i := 1) (v := .int .i64 xr) rfl
        have x2 := KX4.out.cell (i := 2) (v := .int .i64 xd) rfl
        have x3 := KX4.out.cell (i := 3) (v := .int .i64 xs) rfl
        have x4 := KX4.out.cell (i := 4) (v := .string xv) rfl
        have R5 : Hid (RowB encVt (w4.setCells g (k * 5) (encVt ⟨xn, xr, xd, xs, xv⟩)) g (M.set k ⟨xn, xr, xd, xs, xv⟩)) := R4.out.store evl hkM _
        have C5 : Hid ((w4.setCells g (k * 5) (encVt ⟨xn, xr, xd, xs, xv⟩)).cell? ⟨bs, 0, none⟩ = some (.int .i64 s)) := (fr_setCellsK g (k * 5) (encVt ⟨xn, xr, xd, xs, xv⟩) w4).cell (p := ⟨bs, 0, none⟩) (fun e => hgb e) C4.out
        have F5 : Hid (Fr (S1 g) w2 (w4.setCells g (k * 5) (encVt ⟨xn, xr, xd, xs, xv⟩))) := F4.out.trans (fr_setCellsK g _ _ _)
        have F2 : Hid ((L.take (j + 1)).filter (fun x => decide (x.sl = s)) = (M.set k ⟨xn, xr, xd, xs, xv⟩).take (k + 1)) := by
          rw [Hid, FS.out, FIL.out, List.take_add_one, List.getElem?_set_self hkM, List.take_set_of_le (Nat.le_refl _)]
          rfl
        have D2 := Lib.hid (HD1.out (M.set k ⟨xn, xr, xd, xs, xv⟩) (by rw [List.drop_set_of_lt (by omega)]))
        have M2 : Hid ((M.set k ⟨xn, xr, xd, xs, xv⟩).length = N) := by rw [Hid, List.length_set]; exact ML.out
        have hkN : k < N := by omega
        clear hkM hy
        go_wp2_with fail
        go_roundg (N - (j + 1))
        case measure => omega
        case rel => exact ⟨j + 1, k + 1, _, by omega, by omega, rfl, by go_num, by go_num, M2.out, F2.out, D2.out, R5.out, C5.out, F5.out⟩
end Go.Proofs.YthkdmpalhdifbaaGreatDoor
