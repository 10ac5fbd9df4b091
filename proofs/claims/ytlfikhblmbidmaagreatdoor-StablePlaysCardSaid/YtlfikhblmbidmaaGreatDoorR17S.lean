import Derived.Test.YtlfikhblmbidmaaGreatDoorKdP
import Derived.Test.YtlfikhblmbidmaaGreatDoorR3B
import Derived.Deep.DeepCutAuto
import Derived.Deep.CutBlock
import Derived.Deep.LoopGhost
set_option linter.all false
namespace Go.Proofs.YtlfikhblmbidmaaGreatDoor
open Go.RowKit Go.Maps
theorem RwAt.kd {X : World} {p : Nat} {v : Value} {bs : List UInt8} (h : RwAt X p v bs) : KdS X (fun i => i = p ∨ v.ownBlock = some i) (fun T => T = 218 ∨ T = 5) := fun i e => by
 rcases e with rfl | e
 ·exact ⟨_, _, _, h.blk, .inl rfl⟩
 ·obtain ⟨cur, hc⟩ := row_blk h.row i e
  exact ⟨_, _, _, hc, .inr rfl⟩
structure RbS (w X : World) (p : Nat) (v : Value) (bs : List UInt8) (a : Nat) (av : Value) (q : Nat) (lv : Value) (l : VL) (lo : Nat) (t : NSt) : Prop where
 rw : RwAt X p v bs
 rn : RNS X lo a av q lv l t
 bel : Below w.heap.size w X
 lp : w.heap.size ≤ p
namespace RbS
variable {w X Y : World} {p a q lo : Nat} {v v' av lv : Value} {bs bs' : List UInt8} {l : VL} {t : NSt}
theorem below (h : RbS w X p v bs a av q lv l lo t) (k : Below X.heap.size X Y) : RbS w Y p v bs a av q lv l lo t := ⟨h.rw.below k, h.rn.below k, h.bel.trans (k.mono h.bel.size), h.lp⟩
theorem step (h : RbS w X p v bs a av q lv l lo t) (k : RwStep X p v Y v' bs') : RbS w Y p v' bs' a av q lv l lo t :=
  ⟨k.at_, h.rn.keepT' (fun T e => by rcases e with rfl | rfl | rfl | rfl <;> exact h.rw.kd.keep k.fr _ (by decide)),
   h.bel.trans (k.fr.below h.bel.size (fun i e => by
     rcases e with rfl | e
     · exact h.lp
     · have := (h.rw.row.lt i e).1; have := h.lp; omega)), h.lp⟩
theorem num (h : RbS w X p v bs a av q lv l lo t) (z : Int) (h0 : 0 ≤ z) (h1 : z < 9223372036854775808) (hl : bs.length ≤ 100000000) :
  Calls Tryz.prog 86 #[.pointer (some ⟨p, 0, none⟩), .int .u64 z] X fun e Y => ∃ v', e = .returned (.tuple #[]) ∧ RwStep X p v Y v' (bs ++ uintB z.toNat) ∧ RbS w Y p v' (bs ++ uintB z.toNat) a av q lv l lo t := by
 have := rwuint p z.toNat v bs X h.rw (by omega) hl
 rw [Int.toNat_of_nonneg h0] at this
 refine this.mono ?_
 rintro e Y ⟨v', rfl, hs⟩
 exact ⟨v', rfl, hs, h.step hs⟩
theorem txt (h : RbS w X p v bs a av q lv l lo t) (s : ByteArray) (hs : s.size ≤ 1000000) (hl : bs.length ≤ 100000000) :
  Calls Tryz.prog 89 #[.pointer (some ⟨p, 0, none⟩), .string s] X fun e Y => ∃ v', e = .returned (.tuple #[]) ∧ RwStep X p v Y v' (bs ++ textB s.data.toList) ∧ RbS w Y p v' (bs ++ textB s.data.toList) a av q lv l lo t := by
 refine (rwtext p v bs s X h.rw hs hl).mono ?_
 rintro e Y ⟨v', rfl, hs⟩
 exact ⟨v', rfl, hs, h.step hs⟩
theorem keep (h : RbS w X p v bs a av q lv l lo t) (k : RwStep X p v Y v' bs') (T : TypeId) (h1 : T ≠ 218) (h2 : T ≠ 5) : KeepT T X Y :=
 h.rw.kd.keep k.fr T (fun e => by rcases e with e | e; exact h1 e; exact h2 e)
end RbS
theorem u64_wrap {z : Int} (h0 : 0 ≤ z) (h1 : z < 9223372036854775808) : IntKind.u64.wrap z = z := by
 simp [IntKind.wrap, IntKind.signed, IntKind.bits]
 omega
set_option maxRecDepth 100000 in
set_option maxHeartbeats 16000000 in
theorem rbytes_any {w : World} {lo a q : Nat} {av lv : Value} {l : VL} {t : NSt} (h : RNS w lo a av q lv l t) (hT : (snapB t).length ≤ 80000000) (hV : ∀ x ∈ t.a.L, x.2.2.2.size ≤ 65536) :
    Calls Tryz.prog 134 #[.pointer (some ⟨a, 0, none⟩), .pointer (some ⟨q, 0, none⟩)] w fun e w' => ∃ vo, e = .returned vo ∧ w'.ownsRow w.heap.size 5 1 vo (snapB t).length ((snapB t).map u8V) ∧ Below w.heap.size w w' := by
  obtain ⟨i0, hi, hz0, hz1, hz2⟩ := info_parts info_int
  have HI := Lib.hid hi
  have HZ0 := Lib.hid hz0
  have HZ1 := Lib.hid hz1
  have HZ2 := Lib.hid hz2
  have hra := h.ac.good.range
  have hba := h.ac.good.base
  have hla := h.ac.good.list0
  have hen := h.ac.good.len
  have hlb := h.lg.good.b0
  have hlt := h.lg.good.bu
  have hlt2 := h.lg.good.ut
  have hlt3 := h.lg.good.t1
  have hll := h.lg.good.len
  have HENT := Lib.hid (fun p hp => h.ac.good.ent (p := p) hp)
  have HKEY := Lib.hid (fun p hp => h.lg.good.key (p := p) hp)
  have HSIZ := Lib.hid h.lg.good.size
  have HSRT := Lib.hid h.lg.good.srt
  have HVV := Lib.hid hV
  have eS : snapB t = uintB t.a.r.toNat ++ (uintB t.a.d.toNat ++ (uintB t.a.base.toNat ++ (uintB t.a.L.length ++ (t.a.L.flatMap entB ++ (uintB t.l.base.toNat ++ (uintB t.l.L.length ++ (t.l.L.flatMap valuB ++ []))))))) := by
    simp [snapB, headA, headL, uintsB]
  have HES := Lib.hid eS
  have HLE : Hid (∀ X Y : List UInt8, X ++ Y = snapB t → X.length ≤ 100000000) := fun X Y e => by
    have := congrArg List.length e
    rw [List.length_append] at this
    omega
  have hw1 := u64_wrap (z := t.a.r) (by omega) (by omega)
  have hw2 := u64_wrap (z := t.a.d) (by omega) (by omega)
  have hw3 := u64_wrap (z := t.a.base) (by omega) (by omega)
  have hw4 := u64_wrap (z := (t.a.L.length : Int)) (by omega) (by omega)
  have hw5 := u64_wrap (z := t.l.base) (by omega) (by omega)
  have hw6 := u64_wrap (z := (t.l.L.length : Int)) (by omega) (by omega)
  have hfA : ∀ W : World, (Instr.field 24 (.agg #[.int .i64 t.a.r, .int .i64 t.a.d]) 0).run Tryz.prog W = .ok (.int .i64 t.a.r) W := fun _ => by kernel_rfl
  have hfB : ∀ W : World, (Instr.field 24 (.agg #[.int .i64 t.a.r, .int .i64 t.a.d]) 1).run Tryz.prog W = .ok (.int .i64 t.a.d) W := fun _ => by kernel_rfl
  have H := Lib.hid h
  clear h hi hz0 hz1 hz2 eS hV
  go_enter Tryz.func134, Tryz.ntmps134
  have TK1 := trivial
  have TK2 := trivial
  have TK3 := trivial
  have TK4 := trivial
  go_upto_region 7 with (first
    | (go_at_call 85; refine (rwnew _).mono ?_; rintro e X1 ⟨p, rfl, hr, hp, hb⟩; have R1 := Lib.hid (show RbS w X1 p (.slice none 0 0) [] a av q lv l lo t from ⟨hr, H.out.below hb, hb, hp⟩); clear hr hp hb)
    | (go_at_call 107; have _t := TK1; refine (rpromised_any a av t.a _ R1.out.rn.ac).mono ?_; rintro e X2 ⟨he, hb⟩; unfold balV at he; subst he; have R2 := Lib.hid (R1.out.below hb); clear hb TK1)
    | (go_at_call 86; have _t := TK2; (with_reducible refine (R2.out.num t.a.r (by omega) (by omega) (by simp)).mono ?_); rintro e X3 ⟨v3, rfl, _, hs⟩; have R3 := Lib.hid hs; clear hs TK2)
    | (go_at_call 107; refine (rpromised_any a av t.a _ R3.out.rn.ac).mono ?_; rintro e X4 ⟨he, hb⟩; unfold balV at he; subst he; have R4 := Lib.hid (R3.out.below hb); clear hb)
    | (go_at_call 86; have _t := TK3; (with_reducible refine (R4.out.num t.a.d (by omega) (by omega) ?_).mono ?_); exact HLE.out _ _ (by rw [HES.out, List.nil_append]); rintro e X5 ⟨v5, rfl, _, hs⟩; have R5 := Lib.hid hs; clear hs TK3)
    | (go_at_call 108; refine (rbase_any a av t.a _ R5.out.rn.ac).mono ?_; rintro e X6 ⟨rfl, rfl⟩)
    | (go_at_call 86; have _t := TK4; (with_reducible refine (R5.out.num t.a.base (by omega) (by omega) ?_).mono ?_); exact HLE.out _ _ (by rw [HES.out, List.nil_append, List.append_assoc]); rintro e X7 ⟨v7, rfl, _, hs⟩; have R7 := Lib.hid hs; clear hs TK4)
    | (go_at_call 110; refine (rlist_any a av t.a 0 _ R7.out.rn.ac).mono ?_; rintro e X8 ⟨v8, rfl, hv, hb⟩; rw [hla] at hv; obtain ⟨A8, c8, rfl⟩ := row_len hv; have E8 := Lib.hid hv; have R8 := Lib.hid (R7.out.below hb); clear hv hb)
    | (go_at_call 86; (with_reducible refine (R8.out.num (t.a.L.length : Int) (by omega) (by omega) ?_).mono ?_); exact HLE.out _ _ (by rw [HES.out, List.nil_append, List.append_assoc, List.append_assoc]); rintro e X9 ⟨v9, rfl, hst, hs⟩; have E9 := Lib.hid (KeepT.row (R8.out.keep hst 128 (by decide) (by decide)) E8.out); have R9 := Lib.hid hs; clear hs hst))
  clear R1 R2 R3 R4 R5 R7 R8
  have R9' := R9.out
  rw [Int.toNat_natCast] at R9'
  clear R9
  have HLS : Hid ((([] ++ uintB t.a.r.toNat ++ uintB t.a.d.toNat ++ uintB t.a.base.toNat ++ uintB t.a.L.length : List UInt8) ++ (t.a.L.flatMap entB ++ (uintB t.l.base.toNat ++ (uintB t.l.L.length ++ t.l.L.flatMap valuB)))) = snapB t) := by
    rw [Hid, HES.out]
    simp
  generalize ([] ++ uintB t.a.r.toNat ++ uintB t.a.d.toNat ++ uintB t.a.base.toNat ++ uintB t.a.L.length : List UInt8) = PRE at *
  clear HES HLE
  go_wp2_with fail
  go_loopg [7] t.a.L.length (fun g c wr => ∃ i : Nat, i ≤ t.a.L.length ∧ g = t.a.L.length - i ∧ c = .int .i64 i ∧ EntRow wr X7.heap.size (.slice A8 t.a.L.length c8) t.a.L ∧ ∃ v, RbS w wr p v (PRE ++ (t.a.L.take i).flatMap entB) a av q lv l lo t)
  case atStart => exact ⟨0, Nat.zero_le _, rfl, rfl, E9.out, v9, by simpa using R9'⟩
  case round =>
    obtain ⟨i, hi, rfl, rfl, hE, v0, hR⟩ := hrel
    clear R9' E9
    have RI := Lib.hid hR
    have EI := Lib.hid hE
    clear hR
    by_cases hlt : i < t.a.L.length
    case pos =>
      obtain ⟨y, hy⟩ : ∃ y, t.a.L[i]? = some y := ⟨_, List.getElem?_eq_getElem hlt⟩
      obtain ⟨sl, er, ed, ev⟩ := y
      have hen' := HENT.out (sl, er, ed, ev) (List.mem_of_getElem? hy)
      have hev := HVV.out _ (List.mem_of_getElem? hy)
      simp only at hen' hev
      obtain ⟨A, cp, hv, _, hcell⟩ := hE.view
      simp only [Value.slice.injEq] at hv
      obtain ⟨rfl, _, rfl⟩ := hv
      obtain ⟨g, rfl, _, hgl, hcs⟩ := hcell (by omega)
      obtain ⟨q0, q1, q2, q3⟩ := hcs i _ _ hy
      simp only at q0 q1 q2 q3
      have HSTEP := Lib.hid (flat_step entB t.a.L i _ hy)
      have hbl := (Blk.new wr 128 #[.int .i64 sl, .int .i64 er, .int .i64 ed, .string ev])
      have d0 := hbl.cell (i := 0) (v := .int .i64 sl) rfl
      have d1 := hbl.cell (i := 1) (v := .int .i64 er) rfl
      have d2 := hbl.cell (i := 2) (v := .int .i64 ed) rfl
      have d3 := hbl.cell (i := 3) (v := .string ev) rfl
      have HBL := Lib.hid hbl
      have RJ := Lib.hid (RI.out.below ((Below.refl _ wr).alloc (Nat.le_refl _) (.cells #[.int .i64 sl, .int .i64 er, .int .i64 ed, .string ev] 128)))
      have EJ := Lib.hid (EI.out.below ((Below.refl _ wr).alloc (Nat.le_refl _) (.cells #[.int .i64 sl, .int .i64 er, .int .i64 ed, .string ev] 128)))
      have hlen := congrArg List.length HLS.out
      have hfl := flat_len entB t.a.L (i + 1)
      rw [HSTEP.out] at hfl
      have hee : entB (sl, er, ed, ev) = uintB sl.toNat ++ uintB er.toNat ++ uintB ed.toNat ++ textB ev.data.toList := by simp [entB, uintsB]
      rw [hee] at hfl
      simp only [List.length_append] at hlen hfl
      have HEE := Lib.hid hee
      have TK1 := trivial
      have TK2 := trivial
      have TK3 := trivial
      clear hbl hcell hcs hE hy hee
      go_wp2_with (first
        | (go_at_call 86; have _t := TK1; (with_reducible refine (RJ.out.num sl (by omega) (by omega) (by simp only [List.length_append]; omega)).mono ?_); rintro e Y1 ⟨v1, rfl, hst, hs⟩; have K1 := RJ.out.keep hst 128 (by decide) (by decide); have hb1 := blk_keepT HBL.out K1; have e1 := hb1.cell (i := 1) (v := .int .i64 er) rfl; have HB1 := Lib.hid hb1; have EA := Lib.hid (KeepT.row K1 EJ.out); have RA := Lib.hid hs; clear TK1 hst hs K1 hb1 RJ EJ d0 d1 d2 d3)
        | (go_at_call 86; have _t := TK2; (with_reducible refine (RA.out.num er (by omega) (by omega) (by simp only [List.length_append]; omega)).mono ?_); rintro e Y2 ⟨v2, rfl, hst, hs⟩; have K1 := RA.out.keep hst 128 (by decide) (by decide); have hb1 := blk_keepT HB1.out K1; have e2 := hb1.cell (i := 2) (v := .int .i64 ed) rfl; have HB2 := Lib.hid hb1; have EB := Lib.hid (KeepT.row K1 EA.out); have RB := Lib.hid hs; clear TK2 hst hs K1 hb1 RA EA)
        | (go_at_call 86; have _t := TK3; (with_reducible refine (RB.out.num ed (by omega) (by omega) (by simp only [List.length_append]; omega)).mono ?_); rintro e Y3 ⟨v3, rfl, hst, hs⟩; have K1 := RB.out.keep hst 128 (by decide) (by decide); have hb1 := blk_keepT HB2.out K1; have e3 := hb1.cell (i := 3) (v := .string ev) rfl; have EC := Lib.hid (KeepT.row K1 EB.out); have RC := Lib.hid hs; clear TK3 hst hs K1 hb1 RB EB)
        | (go_at_call 89; (with_reducible refine (RC.out.txt ev (by omega) (by simp only [List.length_append]; omega)).mono ?_); rintro e Y4 ⟨v4, rfl, hst, hs⟩; have ED := Lib.hid (KeepT.row (RC.out.keep hst 128 (by decide) (by decide)) EC.out); have RD := Lib.hid hs; clear hst hs RC EC))
      go_roundg (t.a.L.length - (i + 1))
      case measure => omega
      case rel =>
        refine ⟨i + 1, by omega, rfl, by push_cast; rfl, ED.out, v4, ?_⟩
        have := RD.out
        rw [HSTEP.out, HEE.out]
        simpa only [List.append_assoc] using this
    case neg =>
      obtain rfl : i = t.a.L.length := by omega
      have RI := RI.out
      rw [List.take_length] at RI
      have RK := Lib.hid RI
      clear RI EI hE
      have HLT : Hid (PRE ++ t.a.L.flatMap entB ++ (uintB t.l.base.toNat ++ (uintB t.l.L.length ++ t.l.L.flatMap valuB)) = snapB t) := by
        rw [Hid, ← HLS.out, List.append_assoc]
      have hlen := congrArg List.length HLT.out
      simp only [List.length_append] at hlen
      go_wp2_with (first
        | (go_at_call 111; refine (rlbase_any RK.out.rn.lg).mono ?_; rintro e Y1 ⟨rfl, rfl⟩)
        | (go_at_call 86; (with_reducible refine (RK.out.num t.l.base (by omega) (by omega) (by simp only [List.length_append]; omega)).mono ?_); rintro e Y2 ⟨v2, rfl, _, hs⟩; have RL := Lib.hid hs; clear hs RK))
      obtain ⟨W9, rfl⟩ : ∃ W9 : World, W9 = Y2 := ⟨_, rfl⟩
      go_loopg [9, 10] 4096 (fun g c9 c10 wr => ∃ x : Int, 0 ≤ x ∧ x ≤ 4096 ∧ g = (4096 - x).toNat ∧ c10 = .int .i64 x ∧ IntRow wr W9.heap.size c9 (hasL t.l.L x) ∧ Below W9.heap.size W9 wr)
      case atStart =>
        refine ⟨0, Int.le_refl _, by omega, rfl, rfl, ?_, Below.refl _ _⟩
        rw [hasL_start (fun y hy => (HKEY.out y hy).1)]
        exact IntRow.nil _ _
      case round =>
        obtain ⟨x, hx1, hx2, rfl, rfl, hrow, hbel⟩ := hrel
        have HB := Lib.hid hbel
        have HR := Lib.hid hrow
        have hll2 : (hasL t.l.L x).length ≤ 4096 := by unfold hasL; rw [List.length_map]; exact Nat.le_trans (List.length_filter_le _ _) hll
        obtain ⟨A2, p2, rfl, hp2, _⟩ := hrow.view
        have hz9 := hbel.size
        clear hrow hbel
        by_cases hx : x < 4096
        case pos =>
          have HG := Lib.hid (rlget_any x (RL.out.rn.lg.below HB.out))
          have HSTEP := Lib.hid (hasL_step HSRT.out x)
          cases his : (get x t.l.L).isSome with
          | false =>
            have HG2 : Hid (Calls Tryz.prog 128 #[.pointer (some ⟨q, 0, none⟩), .int .i64 x] wr fun e w' => e = .returned (.tuple #[.string ((get x t.l.L).getD ⟨#[]⟩), .bool false]) ∧ wr = w') := by
              have := HG.out
              unfold getV at this
              rw [his] at this
              exact this
            have HIS := Lib.hid his
            clear HG his
            go_wp2_with (go_at_call 128; refine HG2.out.mono ?_; rintro e w5 ⟨rfl, rfl⟩)
            go_roundg (4096 - (x + 1)).toNat
            case measure => omega
            case rel =>
              refine ⟨x + 1, by omega, by omega, rfl, rfl, ?_, HB.out⟩
              rw [HSTEP.out, HIS.out]
              simpa using HR.out
          | true =>
            have HG2 : Hid (Calls Tryz.prog 128 #[.pointer (some ⟨q, 0, none⟩), .int .i64 x] wr fun e w' => e = .returned (.tuple #[.string ((get x t.l.L).getD ⟨#[]⟩), .bool true]) ∧ wr = w') := by
              have := HG.out
              unfold getV at this
              rw [his] at this
              exact this
            have HIS := Lib.hid his
            clear HG his
            go_wp2_with (first
              | (go_at_call 128; refine HG2.out.mono ?_; rintro e w5 ⟨rfl, rfl⟩)
              | (at_builtin; refine wpList_append_own _ rfl _ _ 31 rfl W9.heap.size 3 i0 (.int .i64 0) 1 8 Tryz.underlying31 HI.out HZ0.out HZ1.out HZ2.out rfl (by decide) _ _ _ rfl (World.ownsRow.alloc HR.out _) ⟨wr.heap.size, 0, none⟩ 1 1 [.int .i64 x] rfl rfl (cell_one_new _ _ _) (by simp [Value.oneCell']) (by unfold maxLen; omega) (by omega) (by simp; omega) ?_; intro v' w4 hown' hgrow _; have HOWN := Lib.hid hown'; have HGR := Lib.hid hgrow; clear hown' hgrow))
            go_roundg (4096 - (x + 1)).toNat
            case measure => omega
            case rel =>
              refine ⟨x + 1, by omega, by omega, rfl, rfl, ?_, ?_⟩
              · rw [HSTEP.out, HIS.out]
                have := HOWN.out
                rw [if_pos rfl]
                unfold IntRow
                rw [List.length_append, List.map_append]
                exact this
              · exact (HB.out.alloc hz9 _).trans ((Fr.of_grown HGR.out (fun i e => e)).below (by simp; omega) (fun i e => (HR.out.lt i e).1))
        case neg =>
          obtain rfl : x = 4096 := by omega
          have hks : hasL t.l.L 4096 = t.l.L.map (·.1) := hasL_end (fun y hy => (HKEY.out y hy).2)
          have hlen2 : (hasL t.l.L 4096).length = t.l.L.length := by rw [hks, List.length_map]
          have hR2 := HR.out
          rw [hks, List.length_map] at hR2
          rw [hlen2]
          have HR2 := Lib.hid hR2
          have RM := Lib.hid (RL.out.below HB.out)
          clear hR2 HR RL
          go_wp2_with (go_at_call 86; (with_reducible refine (RM.out.num (t.l.L.length : Int) (by omega) (by omega) (by simp only [List.length_append]; omega)).mono ?_); rintro e Y5 ⟨v5, rfl, hst, hs⟩; have HR3 := Lib.hid (KeepT.row (RM.out.keep hst 3 (by decide) (by decide)) HR2.out); rw [Int.toNat_natCast] at hs; have RN := Lib.hid hs; clear hs hst RM HR2)
          go_loopg [13] t.l.L.length (fun g c wt => ∃ i : Nat, i ≤ t.l.L.length ∧ g = t.l.L.length - i ∧ c = .int .i64 i ∧ wt.ownsRow W9.heap.size 3 1 (.slice A2 t.l.L.length p2) t.l.L.length ((t.l.L.map (·.1)).map (Value.int .i64)) ∧ ∃ v, RbS w wt p v ((PRE ++ t.a.L.flatMap entB ++ uintB t.l.base.toNat ++ uintB t.l.L.length) ++ (t.l.L.take i).flatMap valuB) a av q lv l lo t)
          case atStart => exact ⟨0, Nat.zero_le _, rfl, rfl, by have := HR3.out; rw [List.length_map] at this; exact this, v5, by simpa using RN.out⟩
          case round =>
            obtain ⟨i, hi, rfl, rfl, hrow, v0, hR⟩ := hrel
            clear RN HR3
            have RO := Lib.hid hR
            clear hR
            by_cases hlt : i < t.l.L.length
            case pos =>
              obtain ⟨y, hy⟩ : ∃ y, t.l.L[i]? = some y := ⟨_, List.getElem?_eq_getElem hlt⟩
              obtain ⟨kk, vv⟩ := y
              have hkk := HKEY.out (kk, vv) (List.mem_of_getElem? hy)
              have hvz := HSIZ.out (kk, vv) (List.mem_of_getElem? hy)
              simp only at hkk hvz
              have hget : get kk t.l.L = some vv := get_of_mem HSRT.out (List.mem_of_getElem? hy)
              obtain ⟨g, cp, hA, hq0, _⟩ := row_at hrow (i := i) (x := .int .i64 kk) (by rw [List.getElem?_map, List.getElem?_map, hy]; rfl)
              simp only [Value.slice.injEq] at hA
              obtain ⟨rfl, _, rfl⟩ := hA
              have HG : Hid (Calls Tryz.prog 128 #[.pointer (some ⟨q, 0, none⟩), .int .i64 kk] wr fun e w' => e = .returned (.tuple #[.string vv, .bool true]) ∧ wr = w') := by
                have := rlget_any kk RO.out.rn.lg
                unfold getV at this
                rw [hget] at this
                exact this
              have HSTEP := Lib.hid (flat_step valuB t.l.L i _ hy)
              have hfl := flat_len valuB t.l.L (i + 1)
              rw [HSTEP.out] at hfl
              have hbe : valuB (kk, vv) = uintB kk.toNat ++ textB vv.data.toList := by simp [valuB, uintsB]
              rw [hbe] at hfl
              simp only [List.length_append] at hfl
              have HBE := Lib.hid hbe
              have HROW := Lib.hid hrow
              clear hrow hget hbe hy
              go_wp2_with (first
                | (go_at_call 128; refine HG.out.mono ?_; rintro e w4 ⟨rfl, rfl⟩)
                | (go_at_call 86; (with_reducible refine (RO.out.num kk (by omega) (by omega) (by simp only [List.length_append]; omega)).mono ?_); rintro e Z1 ⟨u1, rfl, hst, hs⟩; have HK1 := Lib.hid (KeepT.row (RO.out.keep hst 3 (by decide) (by decide)) HROW.out); have RP := Lib.hid hs; clear hst hs RO)
                | (go_at_call 89; (with_reducible refine (RP.out.txt vv (by omega) (by simp only [List.length_append]; omega)).mono ?_); rintro e Z2 ⟨u2, rfl, hst, hs⟩; have HK2 := Lib.hid (KeepT.row (RP.out.keep hst 3 (by decide) (by decide)) HK1.out); have RQ := Lib.hid hs; clear hst hs RP))
              go_roundg (t.l.L.length - (i + 1))
              case measure => omega
              case rel =>
                refine ⟨i + 1, by omega, rfl, by push_cast; rfl, HK2.out, u2, ?_⟩
                have := RQ.out
                rw [HSTEP.out, HBE.out]
                simpa only [List.append_assoc] using this
            case neg =>
              obtain rfl : i = t.l.L.length := by omega
              have hR := RO.out
              rw [List.take_length, show PRE ++ t.a.L.flatMap entB ++ uintB t.l.base.toNat ++ uintB t.l.L.length ++ t.l.L.flatMap valuB = snapB t by rw [← HLT.out]; simp only [List.append_assoc]] at hR
              have RZ := Lib.hid hR
              have hpos : 0 < (snapB t).length := by
                have := uintB_pos t.l.L.length
                omega
              clear hR RO hrow
              go_wp2_with (go_at_call 174; refine (rwbytes p v0 _ _ RZ.out.rw hpos (by omega)).mono ?_; rintro e Z3 ⟨vo, rfl, ho, hb⟩; have HO := Lib.hid ho; have HB3 := Lib.hid hb; clear ho hb)
              go_returns
              exact ⟨_, rfl, World.ownsRow.mono HO.out RZ.out.bel.size, RZ.out.bel.trans (HB3.out.mono RZ.out.bel.size)⟩
set_option maxRecDepth 100000 in
set_option maxHeartbeats 2000000 in
theorem rcompact_any {w : World} {lo rp a q : Nat} {v sv av lv : Value} {l : VL} {ds : DSt} {t : NSt} (h : RDk w rp v sv ds) (hn : RNS w lo a av q lv l t) (hT : (snapB t).length ≤ 80000000) (hV : ∀ x ∈ t.a.L, x.2.2.2.size ≤ 65536) :
  Calls Tryz.prog 48 #[.pointer (some ⟨rp, 0, none⟩), .pointer (some ⟨a, 0, none⟩), .pointer (some ⟨q, 0, none⟩)] w fun e w' =>
   (65536 < (snapB t).length → e = .returned (.int .i64 11) ∧ Below w.heap.size w w') ∧
   ((snapB t).length ≤ 65536 → e = .returned (.int .i64 0) ∧ ∃ sv', RDStep w rp v sv w' (.slice none 0 0) sv' ⟨[], 0, snapB t, true⟩) := by
 have HB := Lib.hid (rbytes_any hn hT hV)
 have H := Lib.hid h
 clear h hn
 by_cases hl : 65536 < (snapB t).length
 ·have hd : decide (((snapB t).length : Int) > 65536) = true := by simp; omega
  go_enter Tryz.func48, Tryz.ntmps48
  go_wp2_with (go_at_call 134; refine HB.out.mono ?_; rintro e X1 ⟨vo, rfl, ho, hb⟩; obtain ⟨A, c, rfl⟩ := row_len ho; have B1 := Lib.hid hb; clear ho hb)
  go_returns
  exact ⟨fun _ => ⟨rfl, B1.out⟩, fun h => by omega⟩
 ·have hd : decide (((snapB t).length : Int) > 65536) = false := by simp; omega
  go_enter Tryz.func48, Tryz.ntmps48
  go_wp2_with (first
   | (go_at_call 134; refine HB.out.mono ?_; rintro e X1 ⟨vo, rfl, ho, hb⟩; obtain ⟨A, c, rfl⟩ := row_len ho; have HO := Lib.hid ho; have B1 := Lib.hid hb; clear ho hb)
   | (go_at_call 28; refine (rdsave_yes _ _ (H.out.below B1.out) (LRow.bsIn (LRow.of_row HO.out)) (by omega)).mono ?_; rintro e X2 ⟨rfl, sv', hs⟩; have HS := Lib.hid hs; clear hs))
  go_returns
  exact ⟨fun h => absurd h hl, fun _ => ⟨rfl, sv', (RDStep.below H.out B1.out).trans HS.out⟩⟩
end Go.Proofs.YtlfikhblmbidmaaGreatDoor