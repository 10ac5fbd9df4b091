/- Package chosen: gather. -/
import Derived.Test.YthkdmpalhdifbaaGreatDoorChoA
import Derived.Test.YthkdmpalhdifbaaGreatDoorQSize
import Derived.Test.YthkdmpalhdifbaaGreatDoorMapE
import Derived.Deep.DeepMust
import Derived.Deep.RegionHeld3
import Derived.Deep.DeepCutAuto
import Derived.Deep.CutBlock
import Derived.Deep.LoopGhost
set_option linter.unusedVariables false
set_option linter.unusedSimpArgs false
namespace Go.Proofs.YthkdmpalhdifbaaGreatDoor
open Go.RowKit Go.Maps

/-- The slice v holds the votes L. -/
def VotesIn (w : World) (v : Value) (L : List Vt) : Prop :=
  ∃ A cap, v = .slice A L.length cap ∧ L.length ≤ cap ∧ cap ≤ maxLen ∧
    (0 < L.length → ∃ b off, A = some ⟨b, off, none⟩ ∧ b < w.heap.size ∧ ∀ i x, L[i]? = some x →
      w.cell? ⟨b, off + i * 5, none⟩ = some (.int .i64 x.nd) ∧ w.cell? ⟨b, off + i * 5 + 1, none⟩ = some (.int .i64 x.r) ∧ w.cell? ⟨b, off + i * 5 + 2, none⟩ = some (.int .i64 x.d) ∧
      w.cell? ⟨b, off + i * 5 + 3, none⟩ = some (.int .i64 x.sl) ∧ w.cell? ⟨b, off + i * 5 + 4, none⟩ = some (.string x.v))
theorem VotesIn.below {w w' : World} {v : Value} {L : List Vt} (h : VotesIn w v L) (hb : Below w.heap.size w w') : VotesIn w' v L := by
  obtain ⟨A, cap, h1, h2, h3, h5⟩ := h
  refine ⟨A, cap, h1, h2, h3, fun h0 => ?_⟩
  obtain ⟨b, off, k1, k2, k3⟩ := h5 h0
  refine ⟨b, off, k1, Nat.lt_of_lt_of_le k2 hb.size, fun i s hx => ?_⟩
  obtain ⟨q0, q1, q2, q3, q4⟩ := k3 i s hx
  exact ⟨bcell hb q0, bcell hb q1, bcell hb q2, bcell hb q3, bcell hb q4⟩

abbrev Sd := ByteArray × Nat
abbrev sdV (s : Sd) : Value := .agg #[.string s.1, .int .u64 (s.2 : Int)]
abbrev baV (b : Int × Int) : Value := .agg #[.int .i64 b.1, .int .i64 b.2]
abbrev GA := List (Pl × Sd)
abbrev GT := List ((Int × Int) × (Int × Int))
/-- What gather does with one more vote. -/
def gbad (A : GA) (T : GT) (x : Vt) : Prop := (∃ s, getG (x.sl, x.r, x.d) A = some s ∧ s.1 ≠ x.v) ∨ ordB (x.r, x.d) ((getG (x.nd, x.sl) T).getD (0, 0)) < 0
instance (A : GA) (T : GT) (x : Vt) : Decidable (gbad A T x) := by
  unfold gbad
  cases h : getG (x.sl, x.r, x.d) A with
  | none => exact decidable_of_iff (ordB (x.r, x.d) ((getG (x.nd, x.sl) T).getD (0, 0)) < 0) (by simp)
  | some s => exact decidable_of_iff (s.1 ≠ x.v ∨ ordB (x.r, x.d) ((getG (x.nd, x.sl) T).getD (0, 0)) < 0) (by simp)
def gputA (A : GA) (x : Vt) : GA := putG (x.sl, x.r, x.d) (x.v, ((getG (x.sl, x.r, x.d) A).getD (⟨#[]⟩, 0)).2 ||| 2 ^ x.nd.toNat) A
def gputT (T : GT) (x : Vt) : GT := putG (x.nd, x.sl) (x.r, x.d) T
def gwalk (n : Int) : GA → GT → Nat → List Vt → Option GA × Int
  | A, _, _, [] => (some A, 0)
  | A, T, i, x :: r => if aloneB x n = false ∨ gbad A T x then (none, (i : Int)) else gwalk n (gputA A x) (gputT T x) (i + 1) r
def okN (n : Int) : Prop := 1 ≤ n ∧ n ≤ 7
instance (n : Int) : Decidable (okN n) := by unfold okN; infer_instance
def gather (n : Int) (L : List Vt) : Option GA × Int := if okN n then gwalk n [] [] 0 L else (none, 0)

theorem run_mk68 (w : World) : (Instr.makeMap 77 none).run Tryz.prog w = .ok (.map (some w.heap.size)) (w.alloc (.map #[] 0)) := by kernel_rfl
theorem bldPl (a b c : Int) (w : World) : (Instr.build 84 #[(0, .int .i64 a), (1, .agg #[.int .i64 b, .int .i64 c])]).run Tryz.prog w = .ok (plV (a, b, c)) w := run_build w 84 _ _ (by kernel_rfl)
theorem bldLa (a b : Int) (w : World) : (Instr.build 122 #[(0, .int .i64 a), (1, .int .i64 b)]).run Tryz.prog w = .ok (laV (a, b)) w := run_build w 122 _ _ (by kernel_rfl)

theorem toList_inj {a b : ByteArray} (h : a.toList = b.toList) : a = b := by
  rw [ByteArray.toList_eq, ByteArray.toList_eq] at h
  obtain ⟨⟨x⟩⟩ := a
  obtain ⟨⟨y⟩⟩ := b
  simp at h
  rw [h]
theorem str_eq (a b : ByteArray) : (a.toList == b.toList) = decide (a = b) := by
  by_cases h : a = b
  · subst h; simp
  · rw [decide_eq_false h, Bool.eq_false_iff]
    intro h2
    exact h (toList_inj (by simpa using h2))
theorem bitor7 : ∀ t : Nat, t < 128 → ∀ a : Nat, a < 7 → bits BinOp.or IntKind.u64 (t : Int) (IntKind.u64.wrap ((2 : Int) ^ a)) = ((t ||| 2 ^ a : Nat) : Int) := by decide +kernel
theorem bitorN {n t a : Nat} (hn : 1 ≤ n ∧ n ≤ 7) (ht : t < 2 ^ n) (ha : a < n) : bits BinOp.or IntKind.u64 (t : Int) (IntKind.u64.wrap ((2 : Int) ^ a)) = ((t ||| 2 ^ a : Nat) : Int) :=
  bitor7 t (Nat.lt_of_lt_of_le ht (Nat.le_trans (Nat.pow_le_pow_right (by decide) hn.2) (by decide))) a (by omega)
theorem bit_ltN {n a i : Nat} (ha : a < 2 ^ n) (hi : i < n) : a ||| 2 ^ i < 2 ^ n := Nat.or_lt_two_pow ha (Nat.pow_lt_pow_right (by decide) hi)
theorem putG_len {κ β : Type} [DecidableEq κ] (k : κ) (v : β) (L : List (κ × β)) : (putG k v L).length ≤ L.length + 1 := by
  unfold putG delG
  rw [List.length_cons]
  have := List.length_filter_le (fun p : κ × β => !decide (p.1 = k)) L
  omega
theorem zeroSd (w : World) : (zeroValue 91).run Tryz.prog w = .ok (sdV (⟨#[]⟩, 0)) w := by
  rw [show zeroValue 91 = zeroValue 91 from rfl]
  kernel_rfl
theorem zeroBa (w : World) : (zeroValue 24).run Tryz.prog w = .ok (baV (0, 0)) w := by kernel_rfl
theorem alone_bd {n : Nat} {nd r d sl : Int} {v : ByteArray} (hn : 1 ≤ n ∧ n ≤ 7) (h : aloneB ⟨nd, r, d, sl, v⟩ n = true) : (0 ≤ nd ∧ nd < n) ∧ (1 ≤ r ∧ r ≤ 1073741824) ∧ (0 ≤ d ∧ d < n) ∧ (0 ≤ sl ∧ sl < 4096) ∧ v.size ≤ 65536 := by
  unfold aloneB chkE at h
  rw [if_neg (show ¬ ((n : Int) < 1 ∨ 7 < (n : Int)) by omega)] at h
  simp only [Bool.and_eq_true, decide_eq_true_eq, Bool.not_eq_true', Bool.and_eq_false_iff, beq_eq_false_iff_ne] at h
  obtain ⟨h1, h2, h3, h4, ⟨h5, h6⟩, h7⟩ := h
  rw [if_neg (show ¬ (r = 0 ∧ d = 0) by omega)] at h4
  by_cases hc : r < 1 ∨ 1073741824 < r ∨ d < 0 ∨ (n : Int) ≤ d
  · rw [if_pos hc] at h4; exact absurd h4 (by decide)
  · omega

set_option maxRecDepth 100000 in
set_option maxHeartbeats 4000000 in
theorem gather_yes (n : Nat) (v : Value) (L : List Vt) (w : World) (h : VotesIn w v L) (hn : 1 ≤ n ∧ n ≤ 7) (hl : L.length ≤ 1000) :
    Calls Tryz.prog 33 #[v, .int .i64 (n : Int)] w fun e w' =>
      (∃ A, gwalk n [] [] 0 L = (some A, 0) ∧ ∃ b, e = .returned (.tuple #[.map (some b), .int .i64 0, .int .i64 0]) ∧ MapG CPl sdV w' b A ∧ w.heap.size ≤ b ∧ Below w.heap.size w w') ∨
      (∃ i : Int, gwalk n [] [] 0 L = (none, i) ∧ e = .returned (.tuple #[.map none, .int .i64 i, .int .i64 2]) ∧ Below w.heap.size w w') := by
  obtain ⟨A0, cap0, rfl, hcap0, hmax0, hc⟩ := h
  have HC := Lib.hid hc
  have hml : cap0 ≤ 9223372036854775807 := by unfold maxLen at hmax0; omega
  have hmm := @run_makeMap Tryz.prog
  clear hc hmax0
  go_enter Tryz.func33, Tryz.ntmps33
  go_upto_region 5 with (go_at_call 59; refine (size_any _ _).mono ?_; rw [if_pos (show 1 ≤ (n : Int) ∧ (n : Int) ≤ 7 by omega)]; rintro e w1 ⟨⟨k, rfl⟩, b1⟩; have B1 := Lib.hid b1; clear b1)
  have M1 : Hid (MapG CPl sdV ((w1.alloc (.map #[] 0)).alloc (.map #[] 0)) w1.heap.size []) := (MapG.made CPl sdV w1).alloc _
  have M2 : Hid (MapG CLa baV ((w1.alloc (.map #[] 0)).alloc (.map #[] 0)) (w1.heap.size + 1) []) := by
    have := MapG.made CLa baV (w1.alloc (.map #[] 0))
    rwa [World.size_alloc] at this
  have B2 : Hid (Below w.heap.size w ((w1.alloc (.map #[] 0)).alloc (.map #[] 0))) := (B1.out.alloc B1.out.size _).alloc (by have := B1.out.size; simp; omega) _
  have hs1 := B1.out.size
  have hs2 : w1.heap.size + 2 ≤ ((w1.alloc (.map #[] 0)).alloc (.map #[] 0)).heap.size := by simp
  generalize ((w1.alloc (.map #[] 0)).alloc (.map #[] 0)) = W2 at *
  obtain ⟨m1, hm1⟩ : ∃ m1, m1 = w1.heap.size := ⟨_, rfl⟩
  obtain ⟨m2, hm2⟩ : ∃ m2, m2 = w1.heap.size + 1 := ⟨_, rfl⟩
  rw [← hm2] at M2 ⊢
  rw [← hm1] at M1 ⊢
  have hm12 : ¬ m1 = m2 := by omega
  have hmw : w.heap.size ≤ m1 ∧ w.heap.size ≤ m2 := by omega
  clear hm1 hm2 hs1 hs2
  go_wp2_with fail
  go_loopg [29] L.length (fun g c wr => ∃ (i : Nat) (A : GA) (T : GT), i ≤ L.length ∧ g = L.length - i ∧ c = .int .i64 i ∧ gwalk n [] [] 0 L = gwalk n A T i (L.drop i) ∧ MapG CPl sdV wr m1 A ∧ MapG CLa baV wr m2 T ∧ A.length ≤ i ∧ T.length ≤ i ∧ (∀ p ∈ A, p.2.2 < 2 ^ n) ∧ Below w.heap.size w wr)
  case atStart => exact ⟨0, [], [], by omega, by omega, rfl, rfl, M1.out, M2.out, by simp, by simp, by simp, B2.out⟩
  case round =>
    clear M1 M2 B1 B2
    obtain ⟨i, A, T, hi, rfl, rfl, hgw, hA, hT, hla, hlt2, hnd, hB⟩ := hrel
    have GW := Lib.hid hgw
    have MA := Lib.hid hA
    have MT := Lib.hid hT
    have HND := Lib.hid hnd
    have B := Lib.hid hB
    clear hgw hA hT hnd hB
    by_cases hlt : i < L.length
    case neg =>
      have e : i = L.length := by omega
      have HG : Hid (gwalk n [] [] 0 L = (some A, 0)) := by rw [Hid, GW.out, e, List.drop_length]; rfl
      subst e
      go_wp2_with fail
      go_returns
      exact .inl ⟨A, HG.out, m1, rfl, MA.out, hmw.1, B.out⟩
    case pos =>
    obtain ⟨b, off, rfl, hb, hcells⟩ := HC.out (by omega)
    obtain ⟨⟨nd, r, d, sl, v⟩, hs⟩ : ∃ x, L[i]? = some x := ⟨_, List.getElem?_eq_getElem hlt⟩
    have hdr : L.drop i = ⟨nd, r, d, sl, v⟩ :: L.drop (i + 1) := by rw [List.drop_eq_getElem_cons hlt]; rw [List.getElem?_eq_getElem hlt] at hs; rw [Option.some.inj hs]
    have HG : Hid (gwalk n [] [] 0 L = if aloneB ⟨nd, r, d, sl, v⟩ n = false ∨ gbad A T ⟨nd, r, d, sl, v⟩ then (none, (i : Int)) else gwalk n (gputA A ⟨nd, r, d, sl, v⟩) (gputT T ⟨nd, r, d, sl, v⟩) (i + 1) (L.drop (i + 1))) := by
      rw [Hid, GW.out, hdr]; rfl
    obtain ⟨q0, q1, q2, q3, q4⟩ := hcells i _ hs
    simp only at q0 q1 q2 q3 q4
    have d0 := bcell B.out q0
    have d1 := bcell B.out q1
    have d2 := bcell B.out q2
    have d3 := bcell B.out q3
    have d4 := bcell B.out q4
    clear q0 q1 q2 q3 q4 hs hcells hdr GW
    go_upto_region 8 with fail
    have bw := box_below wr (.cells #[.int .i64 nd, .int .i64 r, .int .i64 d, .int .i64 sl, .string v] 35)
    have KX := Lib.hid (Blk.new wr 35 #[.int .i64 nd, .int .i64 r, .int .i64 d, .int .i64 sl, .string v])
    have MA1 := Lib.hid (MA.out.below bw)
    have MT1 := Lib.hid (MT.out.below bw)
    have B1 := Lib.hid (bchain B.out bw)
    have hml1 := MA.out.lt
    have hml2 := MT.out.lt
    generalize (wr.alloc (.cells #[.int .i64 nd, .int .i64 r, .int .i64 d, .int .i64 sl, .string v] 35)) = W1 at *
    obtain ⟨bx, hbx⟩ : ∃ bx, bx = wr.heap.size := ⟨_, rfl⟩
    rw [← hbx] at KX hml1 hml2 ⊢
    have hbxw : w.heap.size ≤ bx := by have := B.out.size; omega
    clear hbx bw MA MT B d0 d1 d2 d3 d4
    have y0 := KX.out.cell (i := 0) (v := .int .i64 nd) rfl
    have y1 := KX.out.cell (i := 1) (v := .int .i64 r) rfl
    have y2 := KX.out.cell (i := 2) (v := .int .i64 d) rfl
    have y3 := KX.out.cell (i := 3) (v := .int .i64 sl) rfl
    have y4 := KX.out.cell (i := 4) (v := .string v) rfl
    cases hal : aloneB ⟨nd, r, d, sl, v⟩ n with
    | false =>
      have HF : Hid (gwalk n [] [] 0 L = (none, (i : Int))) := by rw [Hid, HG.out, if_pos (.inl hal)]
      clear HG
      go_wp2_with (go_at_call 56; refine (alone_any _ _ _ _ _ _ _).mono ?_; rw [hal]; rintro e w4 ⟨rfl, b4⟩; have B4 := Lib.hid (bchain B1.out b4); clear b4)
      go_returns
      exact .inr ⟨_, HF.out, rfl, B4.out⟩
    | true =>
      go_upto_region 10 with (go_at_call 56; refine (alone_any _ _ _ _ _ _ _).mono ?_; rw [hal]; rintro e w4 ⟨rfl, b4⟩; have B4 := Lib.hid (bchain B1.out b4); have MA4 := Lib.hid (MA1.out.below b4); have MT4 := Lib.hid (MT1.out.below b4); have K4 := Lib.hid (KX.out.fr (Fr.of_below b4 : Fr S0 _ _) (fun h => h)); have hsz4 := b4.size; have hbxl := KX.out.lt; clear b4)
      clear y0 y1 y2 y3 y4 B1 MA1 MT1 KX
      have y0 := K4.out.cell (i := 0) (v := .int .i64 nd) rfl
      have y1 := K4.out.cell (i := 1) (v := .int .i64 r) rfl
      have y2 := K4.out.cell (i := 2) (v := .int .i64 d) rfl
      have y3 := K4.out.cell (i := 3) (v := .int .i64 sl) rfl
      have y4 := K4.out.cell (i := 4) (v := .string v) rfl
      go_cut [13, 14] (fun P Q wx => ∃ bp bq, P = .pointer (some ⟨bp, 0, none⟩) ∧ Q = .pointer (some ⟨bq, 0, none⟩) ∧ Blk wx bp 84 #[.int .i64 sl, .int .i64 r, .int .i64 d] ∧ Blk wx bq 122 #[.int .i64 nd, .int .i64 sl] ∧ w4.heap.size ≤ bp ∧ w4.heap.size ≤ bq ∧ Below w4.heap.size w4 wx)
      case first =>
        go_region_held3 (fun W => W.cell? ⟨bx, 0, none⟩ = some (.int .i64 nd) ∧ W.cell? ⟨bx, 1, none⟩ = some (.int .i64 r) ∧ W.cell? ⟨bx, 2, none⟩ = some (.int .i64 d) ∧ W.cell? ⟨bx, 3, none⟩ = some (.int .i64 sl))
          (first | exact ⟨by assumption, by assumption, by assumption, by assumption⟩ | go_keep)
          (first | fail)
        · go_wp2_with fail
          go_meet
          refine ⟨w4.heap.size, w4.heap.size + 1, rfl, rfl, ?_, ?_, Nat.le_refl _, by omega, ((box_below w4 _).alloc (by simp) _).drew⟩
          · exact Blk.alloc (Blk.new w4 84 #[.int .i64 sl, .int .i64 r, .int .i64 d]) _
          · have := Blk.new (w4.alloc (.cells #[.int .i64 sl, .int .i64 r, .int .i64 d] 84)) 122 #[.int .i64 nd, .int .i64 sl]
            rwa [World.size_alloc] at this
        · go_wp2_with fail
          go_meet
          refine ⟨w4.heap.size + 1, w4.heap.size, rfl, rfl, ?_, ?_, by omega, Nat.le_refl _, ((box_below w4 _).alloc (by simp) _).drew⟩
          · have := Blk.new (w4.alloc (.cells #[.int .i64 nd, .int .i64 sl] 122)) 84 #[.int .i64 sl, .int .i64 r, .int .i64 d]
            rwa [World.size_alloc] at this
          · exact Blk.alloc (Blk.new w4 122 #[.int .i64 nd, .int .i64 sl]) _
      case rest =>
      obtain ⟨bp, bq, rfl, rfl, hkp, hkq, hbp, hbq, hb5⟩ := hcut
      obtain ⟨w5, rfl⟩ : ∃ w5 : World, w5 = wc := ⟨_, rfl⟩
      obtain ⟨a1, a2, a3, a4, a5⟩ := alone_bd hn hal
      have HAL := Lib.hid hal
      have hip : in64 sl ∧ in64 r ∧ in64 d := by unfold in64; omega
      have hiq : in64 nd ∧ in64 sl := by unfold in64; omega
      obtain ⟨⟨sv, sn⟩, hsd⟩ : ∃ s, (getG (sl, r, d) A).getD (⟨#[]⟩, 0) = s := ⟨_, rfl⟩
      obtain ⟨is, his⟩ : ∃ is, (getG (sl, r, d) A).isSome = is := ⟨_, rfl⟩
      obtain ⟨⟨lr, ld⟩, hlt3⟩ : ∃ s, (getG (nd, sl) T).getD (0, 0) = s := ⟨_, rfl⟩
      have hsv : ((getG (sl, r, d) A).map sdV).getD (sdV (⟨#[]⟩, 0)) = .agg #[.string sv, .int .u64 (sn : Int)] := by
        cases hg : getG (sl, r, d) A with
        | none => rw [hg] at hsd; cases hsd; rfl
        | some s => rw [hg] at hsd; cases hsd; rfl
      have hlv : ((getG (nd, sl) T).map baV).getD (baV (0, 0)) = .agg #[.int .i64 lr, .int .i64 ld] := by
        cases hg : getG (nd, sl) T with
        | none => rw [hg] at hlt3; cases hlt3; rfl
        | some s => rw [hg] at hlt3; cases hlt3; rfl
      have HSV := Lib.hid hsv
      have HLV := Lib.hid hlv
      have HIS := Lib.hid his
      have HSD := Lib.hid hsd
      have HLT := Lib.hid hlt3
      have MA5 := Lib.hid (MA4.out.below hb5)
      have MT5 := Lib.hid (MT4.out.below hb5)
      have K5 := Lib.hid (K4.out.fr (Fr.of_below hb5 : Fr S0 _ _) (fun h => h))
      have B5 := Lib.hid (bchain B4.out hb5)
      have KP := Lib.hid hkp
      have KQ := Lib.hid hkq
      have p0 := hkp.cell (i := 0) (v := .int .i64 sl) rfl
      have p1 := hkp.cell (i := 1) (v := .int .i64 r) rfl
      have p2 := hkp.cell (i := 2) (v := .int .i64 d) rfl
      clear hkp hkq hal hsd his hlt3 hsv hlv MA4 MT4 K4 B4 y0 y1 y2 y3 y4 hb5
      go_upto_region 12 with (first
        | (at_lookup; refine wpList_lookG _ kPl rfl _ _ 77 rfl 91 Tryz.underlying77 (sdV (⟨#[]⟩, 0)) (zeroSd _) m1 A rfl MA5.out (sl, r, d) rfl hip ?_; rw [HSV.out, HIS.out]))
      obtain ⟨W6, hW6⟩ : ∃ W6, W6 = w5.alloc (.cells #[.string sv, .int .u64 (sn : Int)] 91) := ⟨_, rfl⟩
      rw [← hW6]
      have bw := box_below w5 (.cells #[.string sv, .int .u64 (sn : Int)] 91)
      rw [← hW6] at bw
      obtain ⟨bs, hbs⟩ : ∃ bs, bs = w5.heap.size := ⟨_, rfl⟩
      rw [← hbs]
      have KS : Hid (Blk W6 bs 91 #[.string sv, .int .u64 (sn : Int)]) := by rw [hW6, hbs]; exact Blk.new w5 91 #[.string sv, .int .u64 (sn : Int)]
      have MA6 := Lib.hid (MA5.out.below bw)
      have MT6 := Lib.hid (MT5.out.below bw)
      have K6 := Lib.hid (K5.out.fr (Fr.of_below bw : Fr S0 _ _) (fun h => h))
      have KP6 := Lib.hid (KP.out.fr (Fr.of_below bw : Fr S0 _ _) (fun h => h))
      have KQ6 := Lib.hid (KQ.out.fr (Fr.of_below bw : Fr S0 _ _) (fun h => h))
      have B6 := Lib.hid (bchain B5.out bw)
      clear hW6 hbs bw MA5 MT5 K5 KP KQ B5 p0 p1 p2
      have hBAD : gbad A T ⟨nd, r, d, sl, v⟩ ↔ (is = true ∧ sv ≠ v) ∨ ordB (r, d) (lr, ld) < 0 := by
        unfold gbad
        rw [HLT.out]
        refine or_congr ?_ Iff.rfl
        rw [← HIS.out]
        have h1 := HSD.out
        cases hg : getG (sl, r, d) A with
        | none => simp
        | some s => rw [hg] at h1; simp at h1; simp [h1]
      have HBAD := Lib.hid hBAD
      clear hBAD
      go_cut [71] (fun x wx => x = .bool (decide (gbad A T ⟨nd, r, d, sl, v⟩)) ∧ Below W6.heap.size W6 wx)
      case first =>
        have k0 := K6.out.cell (i := 0) (v := .int .i64 nd) rfl
        have k1 := K6.out.cell (i := 1) (v := .int .i64 r) rfl
        have k2 := K6.out.cell (i := 2) (v := .int .i64 d) rfl
        have k4 := K6.out.cell (i := 4) (v := .string v) rfl
        have s0 := KS.out.cell (i := 0) (v := .string sv) rfl
        have n0 := KQ6.out.cell (i := 0) (v := .int .i64 nd) rfl
        have n1 := KQ6.out.cell (i := 1) (v := .int .i64 sl) rfl
        have hlk : ∀ W, MapG CLa baV W m2 T → (Instr.lookup 120 (.map (some m2)) (.agg #[.int .i64 nd, .int .i64 sl]) false).run Tryz.prog W = .ok (.agg #[.int .i64 lr, .int .i64 ld]) W := fun W hW => by
          have := lookG_run W kLa 120 24 Tryz.underlying120 (baV (0, 0)) (zeroBa W) m2 T hW (nd, sl) hiq
          rw [HLV.out] at this
          exact this
        have hl6 := hlk _ MT6.out.drew
        have hl6' := hlk _ MT6.out
        by_cases hb1 : is = true ∧ sv ≠ v
        · obtain ⟨rfl, hne⟩ := hb1
          have hv1 : (sv.toList == v.toList) = false := by rw [str_eq]; simpa using hne
          have E : decide (gbad A T ⟨nd, r, d, sl, v⟩) = true := decide_eq_true (HBAD.out.2 (.inl ⟨rfl, hne⟩))
          have HE := Lib.hid E
          clear E hne
          refine wp_region_held_drew (S := (fun W => W.cell? ⟨bs, 0, none⟩ = some (.string sv) ∧ W.cell? ⟨bx, 4, none⟩ = some (.string v))) (by kernel_rfl) ?_ (fun hHeld => ?_)
          · exact ⟨by assumption, by assumption⟩
          try dsimp only at hHeld
          refine held_yes (i := 0) (some 55) (v := ?_) rfl rfl (by kernel_rfl) (by kernel_rfl) (by kernel_rfl) (fun _ _ _ h => h) (by rfl) ?_ hHeld ?_
          rotate_left
          · (intro w hSw; (try dsimp only at hSw); go_simp; all_goals with_reducible rfl)
          try simp only [Act.put, List.setIfInBounds_toArray, List.set_cons_zero, List.set_cons_succ]
          refine held_yes (i := 1) (some 56) (v := ?_) rfl rfl (by kernel_rfl) (by kernel_rfl) (by kernel_rfl) (fun _ _ _ h => h) (by rfl) ?_ hHeld ?_
          rotate_left
          · (intro w hSw; (try dsimp only at hSw); go_simp; all_goals with_reducible rfl)
          try simp only [Act.put, List.setIfInBounds_toArray, List.set_cons_zero, List.set_cons_succ]
          refine held_yes (i := 2) (some 57) (v := ?_) rfl rfl (by kernel_rfl) (by kernel_rfl) (by kernel_rfl) (fun _ _ _ h => h) (by rfl) ?_ hHeld ?_
          rotate_left
          · (intro w hSw; (try dsimp only at hSw); go_simp; all_goals with_reducible rfl)
          try simp only [Act.put, List.setIfInBounds_toArray, List.set_cons_zero, List.set_cons_succ]
          refine held_yes (i := 3) (some 58) (v := ?_) rfl rfl (by kernel_rfl) (by kernel_rfl) (by kernel_rfl) (fun _ _ _ h => h) (by rfl) ?_ hHeld ?_
          rotate_left
          · (intro w hSw; (try dsimp only at hSw); go_simp; all_goals with_reducible rfl)
          try simp only [Act.put, List.setIfInBounds_toArray, List.set_cons_zero, List.set_cons_succ]
          refine held_yes (i := 4) (some 59) (v := ?_) rfl rfl (by kernel_rfl) (by kernel_rfl) (by kernel_rfl) (fun _ _ _ h => h) (by rfl) ?_ hHeld ?_
          rotate_left
          · (intro w hSw; (try dsimp only at hSw); go_simp; all_goals with_reducible rfl)
          try simp only [Act.put, List.setIfInBounds_toArray, List.set_cons_zero, List.set_cons_succ]
          refine held_yes (i := 5) (some 60) (v := ?_) rfl rfl (by kernel_rfl) (by kernel_rfl) (by kernel_rfl) (fun _ _ _ h => h) (by rfl) ?_ hHeld ?_
          rotate_left
          · (intro w hSw; (try dsimp only at hSw); go_simp; all_goals with_reducible rfl)
          try simp only [Act.put, List.setIfInBounds_toArray, List.set_cons_zero, List.set_cons_succ]
          refine held_yes (i := 6) (some 61) (v := ?_) rfl rfl (by kernel_rfl) (by kernel_rfl) (by kernel_rfl) (fun _ _ _ h => h) (by rfl) ?_ hHeld ?_
          rotate_left
          · (intro w hSw; (try dsimp only at hSw); go_simp; all_goals with_reducible rfl)
          try simp only [Act.put, List.setIfInBounds_toArray, List.set_cons_zero, List.set_cons_succ]
          refine held_yes (i := 7) (some 62) (v := ?_) rfl rfl (by kernel_rfl) (by kernel_rfl) (by kernel_rfl) (fun _ _ _ h => h) (by rfl) ?_ hHeld ?_
          rotate_left
          · (intro w hSw; (try dsimp only at hSw); go_simp; all_goals with_reducible rfl)
          try simp only [Act.put, List.setIfInBounds_toArray, List.set_cons_zero, List.set_cons_succ]
          refine held_yes (i := 8) (some 63) (v := ?_) rfl rfl (by kernel_rfl) (by kernel_rfl) (by kernel_rfl) (fun _ _ _ h => h) (by rfl) ?_ hHeld ?_
          rotate_left
          · (intro w hSw; (try dsimp only at hSw); go_simp; all_goals with_reducible rfl)
          try simp only [Act.put, List.setIfInBounds_toArray, List.set_cons_zero, List.set_cons_succ]
          refine held_no (i := 9) (some 64) rfl rfl (by kernel_rfl) (by kernel_rfl) (by kernel_rfl) (fun _ _ _ h => h) (wanted_f rfl rfl rfl) hHeld ?_
          try simp only [Act.put, List.setIfInBounds_toArray, List.set_cons_zero, List.set_cons_succ]
          refine held_no (i := 10) (some 65) rfl rfl (by kernel_rfl) (by kernel_rfl) (by kernel_rfl) (fun _ _ _ h => h) (wanted_f rfl rfl rfl) hHeld ?_
          try simp only [Act.put, List.setIfInBounds_toArray, List.set_cons_zero, List.set_cons_succ]
          refine held_no (i := 11) (some 66) rfl rfl (by kernel_rfl) (by kernel_rfl) (by kernel_rfl) (fun _ _ _ h => h) (wanted_f rfl rfl rfl) hHeld ?_
          try simp only [Act.put, List.setIfInBounds_toArray, List.set_cons_zero, List.set_cons_succ]
          refine held_no (i := 12) (some 67) rfl rfl (by kernel_rfl) (by kernel_rfl) (by kernel_rfl) (fun _ _ _ h => h) (wanted_f rfl rfl rfl) hHeld ?_
          try simp only [Act.put, List.setIfInBounds_toArray, List.set_cons_zero, List.set_cons_succ]
          refine held_no (i := 13) (some 68) rfl rfl (by kernel_rfl) (by kernel_rfl) (by kernel_rfl) (fun _ _ _ h => h) (wanted_f rfl rfl rfl) hHeld ?_
          try simp only [Act.put, List.setIfInBounds_toArray, List.set_cons_zero, List.set_cons_succ]
          refine held_no (i := 14) (some 69) rfl rfl (by kernel_rfl) (by kernel_rfl) (by kernel_rfl) (fun _ _ _ h => h) (wanted_f rfl rfl rfl) hHeld ?_
          try simp only [Act.put, List.setIfInBounds_toArray, List.set_cons_zero, List.set_cons_succ]
          refine held_no (i := 15) (some 70) rfl rfl (by kernel_rfl) (by kernel_rfl) (by kernel_rfl) (fun _ _ _ h => h) (wanted_f rfl rfl rfl) hHeld ?_
          try simp only [Act.put, List.setIfInBounds_toArray, List.set_cons_zero, List.set_cons_succ]
          refine held_yes (i := 16) (some 71) (v := ?_) rfl rfl (by kernel_rfl) (by kernel_rfl) (by kernel_rfl) (fun _ _ _ h => h) (by rfl) ?_ hHeld ?_
          rotate_left
          · (intro w hSw; (try dsimp only at hSw); go_simp; all_goals with_reducible rfl)
          try simp only [Act.put, List.setIfInBounds_toArray, List.set_cons_zero, List.set_cons_succ]
          refine wpAnyH_done (by kernel_rfl) ?_ _
          go_wp2_with fail
          go_meet
          exact ⟨by rw [HE.out], (Below.refl _ _).drew⟩
        · have E : decide (gbad A T ⟨nd, r, d, sl, v⟩) = decide (ordB (r, d) (lr, ld) < 0) := by
            rw [Bool.eq_iff_iff]
            simp only [decide_eq_true_eq, HBAD.out]
            simp [hb1]
          have HE := Lib.hid E
          clear E
          cases is with
          | true =>
            obtain rfl : sv = v := Classical.byContradiction fun hne => hb1 ⟨rfl, hne⟩
            clear hb1
            refine wp_region_held_drew (S := (fun W => W.cell? ⟨bs, 0, none⟩ = some (.string sv) ∧ W.cell? ⟨bx, 4, none⟩ = some (.string sv) ∧ W.cell? ⟨bx, 1, none⟩ = some (.int .i64 r) ∧ W.cell? ⟨bx, 2, none⟩ = some (.int .i64 d) ∧ W.cell? ⟨bq, 0, none⟩ = some (.int .i64 nd) ∧ W.cell? ⟨bq, 1, none⟩ = some (.int .i64 sl) ∧ (Instr.lookup 120 (.map (some m2)) (.agg #[.int .i64 nd, .int .i64 sl]) false).run Tryz.prog W = .ok (.agg #[.int .i64 lr, .int .i64 ld]) W)) (by kernel_rfl) ?_ (fun hHeld => ?_)
            · exact ⟨by assumption, by assumption, by assumption, by assumption, by assumption, by assumption, by assumption⟩
            try dsimp only at hHeld
            refine held_yes (i := 0) (some 55) (v := ?_) rfl rfl (by kernel_rfl) (by kernel_rfl) (by kernel_rfl) (fun _ _ _ h => h) (by rfl) ?_ hHeld ?_
            rotate_left
            · (intro w hSw; (try dsimp only at hSw); go_simp; all_goals with_reducible rfl)
            try simp only [Act.put, List.setIfInBounds_toArray, List.set_cons_zero, List.set_cons_succ]
            refine held_yes (i := 1) (some 56) (v := ?_) rfl rfl (by kernel_rfl) (by kernel_rfl) (by kernel_rfl) (fun _ _ _ h => h) (by rfl) ?_ hHeld ?_
            rotate_left
            · (intro w hSw; (try dsimp only at hSw); go_simp; all_goals with_reducible rfl)
            try simp only [Act.put, List.setIfInBounds_toArray, List.set_cons_zero, List.set_cons_succ]
            refine held_yes (i := 2) (some 57) (v := ?_) rfl rfl (by kernel_rfl) (by kernel_rfl) (by kernel_rfl) (fun _ _ _ h => h) (by rfl) ?_ hHeld ?_
            rotate_left
            · (intro w hSw; (try dsimp only at hSw); go_simp; all_goals with_reducible rfl)
            try simp only [Act.put, List.setIfInBounds_toArray, List.set_cons_zero, List.set_cons_succ]
            refine held_yes (i := 3) (some 58) (v := ?_) rfl rfl (by kernel_rfl) (by kernel_rfl) (by kernel_rfl) (fun _ _ _ h => h) (by rfl) ?_ hHeld ?_
            rotate_left
            · (intro w hSw; (try dsimp only at hSw); go_simp; all_goals with_reducible rfl)
            try simp only [Act.put, List.setIfInBounds_toArray, List.set_cons_zero, List.set_cons_succ]
            refine held_yes (i := 4) (some 59) (v := ?_) rfl rfl (by kernel_rfl) (by kernel_rfl) (by kernel_rfl) (fun _ _ _ h => h) (by rfl) ?_ hHeld ?_
            rotate_left
            · (intro w hSw; (try dsimp only at hSw); go_simp; all_goals with_reducible rfl)
            try simp only [Act.put, List.setIfInBounds_toArray, List.set_cons_zero, List.set_cons_succ]
            refine held_yes (i := 5) (some 60) (v := ?_) rfl rfl (by kernel_rfl) (by kernel_rfl) (by kernel_rfl) (fun _ _ _ h => h) (by rfl) ?_ hHeld ?_
            rotate_left
            · (intro w hSw; (try dsimp only at hSw); go_simp; all_goals with_reducible rfl)
            try simp only [Act.put, List.setIfInBounds_toArray, List.set_cons_zero, List.set_cons_succ]
            refine held_yes (i := 6) (some 61) (v := ?_) rfl rfl (by kernel_rfl) (by kernel_rfl) (by kernel_rfl) (fun _ _ _ h => h) (by rfl) ?_ hHeld ?_
            rotate_left
            · (intro w hSw; (try dsimp only at hSw); go_simp; all_goals with_reducible rfl)
            try simp only [Act.put, List.setIfInBounds_toArray, List.set_cons_zero, List.set_cons_succ]
            refine held_yes (i := 7) (some 62) (v := ?_) rfl rfl (by kernel_rfl) (by kernel_rfl) (by kernel_rfl) (fun _ _ _ h => h) (by rfl) ?_ hHeld ?_
            rotate_left
            · (intro w hSw; (try dsimp only at hSw); go_simp; all_goals with_reducible rfl)
            try simp only [Act.put, List.setIfInBounds_toArray, List.set_cons_zero, List.set_cons_succ]
            refine held_yes (i := 8) (some 63) (v := ?_) rfl rfl (by kernel_rfl) (by kernel_rfl) (by kernel_rfl) (fun _ _ _ h => h) (by rfl) ?_ hHeld ?_
            rotate_left
            · (intro w hSw; (try dsimp only at hSw); go_simp; all_goals with_reducible rfl)
            try simp only [Act.put, List.setIfInBounds_toArray, List.set_cons_zero, List.set_cons_succ]
            refine held_yes (i := 9) (some 64) (v := ?_) rfl rfl (by kernel_rfl) (by kernel_rfl) (by kernel_rfl) (fun _ _ _ h => h) (by rfl) ?_ hHeld ?_
            rotate_left
            · (intro w hSw; (try dsimp only at hSw); go_simp; all_goals with_reducible rfl)
            try simp only [Act.put, List.setIfInBounds_toArray, List.set_cons_zero, List.set_cons_succ]
            refine held_yes (i := 10) (some 65) (v := ?_) rfl rfl (by kernel_rfl) (by kernel_rfl) (by kernel_rfl) (fun _ _ _ h => h) (by rfl) ?_ hHeld ?_
            rotate_left
            · (intro w hSw; (try dsimp only at hSw); go_simp; all_goals with_reducible rfl)
            try simp only [Act.put, List.setIfInBounds_toArray, List.set_cons_zero, List.set_cons_succ]
            refine held_yes (i := 11) (some 66) (v := ?_) rfl rfl (by kernel_rfl) (by kernel_rfl) (by kernel_rfl) (fun _ _ _ h => h) (by rfl) ?_ hHeld ?_
            rotate_left
            · (intro w hSw; (try dsimp only at hSw); go_simp; all_goals with_reducible rfl)
            try simp only [Act.put, List.setIfInBounds_toArray, List.set_cons_zero, List.set_cons_succ]
            refine held_yes (i := 12) (some 67) (v := ?_) rfl rfl (by kernel_rfl) (by kernel_rfl) (by kernel_rfl) (fun _ _ _ h => h) (by rfl) ?_ hHeld ?_
            rotate_left
            · (intro w hSw; (try dsimp only at hSw); go_simp; all_goals with_reducible rfl)
            try simp only [Act.put, List.setIfInBounds_toArray, List.set_cons_zero, List.set_cons_succ]
            refine held_yes (i := 13) (some 68) (v := ?_) rfl rfl (by kernel_rfl) (by kernel_rfl) (by kernel_rfl) (fun _ _ _ h => h) (by rfl) ?_ hHeld ?_
            rotate_left
            · (intro w hSw; (try dsimp only at hSw); go_simp; all_goals with_reducible rfl)
            try simp only [Act.put, List.setIfInBounds_toArray, List.set_cons_zero, List.set_cons_succ]
            refine wpAnyH_ready (rs := [14]) (by kernel_rfl) (by simp) ?_
            refine (AllReadyH.cons rfl (fun K' hK' => ?_) AllReadyH.nil)
            go_simp
            (go_at_call 36; refine (order_any _ _ _ _ _).mono ?_; rintro e w7 ⟨rfl, b7⟩; have b7' : Below W6.heap.size W6 w7 := (Below.refl _ _).drew.trans (b7.mono (by simp)); have g0 := bcell b7' s0; have g1 := bcell b7' k4; have g2 := bcell b7' k1; have g3 := bcell b7' k2; have g4 := bcell b7' n0; have g5 := bcell b7' n1; have g6 := hlk _ (MT6.out.below b7'); have B7 := Lib.hid b7'; clear b7 b7')
            go_wp2_with fail
            refine hK'.out _ _ ?_ (fun hHeld => ?_)
            · first | exact ⟨by assumption, by assumption, by assumption, by assumption, by assumption, by assumption, by assumption⟩ | go_keep
            clear hK' K'
            try dsimp only at hHeld
            try simp only [Act.put, List.setIfInBounds_toArray, List.set_cons_zero, List.set_cons_succ]
            refine held_yes (i := 15) (some 70) (v := ?_) rfl rfl (by kernel_rfl) (by kernel_rfl) (by kernel_rfl) (fun _ _ _ h => h) (by rfl) ?_ hHeld ?_
            rotate_left
            · (intro w hSw; (try dsimp only at hSw); go_simp; all_goals with_reducible rfl)
            try simp only [Act.put, List.setIfInBounds_toArray, List.set_cons_zero, List.set_cons_succ]
            refine held_yes (i := 16) (some 71) (v := ?_) rfl rfl (by kernel_rfl) (by kernel_rfl) (by kernel_rfl) (fun _ _ _ h => h) (by rfl) ?_ hHeld ?_
            rotate_left
            · (intro w hSw; (try dsimp only at hSw); go_simp; all_goals with_reducible rfl)
            try simp only [Act.put, List.setIfInBounds_toArray, List.set_cons_zero, List.set_cons_succ]
            refine wpAnyH_done (by kernel_rfl) ?_ _
            go_wp2_with fail
            go_meet
            exact ⟨by rw [HE.out], B7.out⟩
          | false =>
            clear hb1
            refine wp_region_held_drew (S := (fun W => W.cell? ⟨bx, 1, none⟩ = some (.int .i64 r) ∧ W.cell? ⟨bx, 2, none⟩ = some (.int .i64 d) ∧ W.cell? ⟨bq, 0, none⟩ = some (.int .i64 nd) ∧ W.cell? ⟨bq, 1, none⟩ = some (.int .i64 sl) ∧ (Instr.lookup 120 (.map (some m2)) (.agg #[.int .i64 nd, .int .i64 sl]) false).run Tryz.prog W = .ok (.agg #[.int .i64 lr, .int .i64 ld]) W)) (by kernel_rfl) ?_ (fun hHeld => ?_)
            · exact ⟨by assumption, by assumption, by assumption, by assumption, by assumption⟩
            try dsimp only at hHeld
            refine held_yes (i := 0) (some 55) (v := ?_) rfl rfl (by kernel_rfl) (by kernel_rfl) (by kernel_rfl) (fun _ _ _ h => h) (by rfl) ?_ hHeld ?_
            rotate_left
            · (intro w hSw; (try dsimp only at hSw); go_simp; all_goals with_reducible rfl)
            try simp only [Act.put, List.setIfInBounds_toArray, List.set_cons_zero, List.set_cons_succ]
            refine held_yes (i := 1) (some 56) (v := ?_) rfl rfl (by kernel_rfl) (by kernel_rfl) (by kernel_rfl) (fun _ _ _ h => h) (by rfl) ?_ hHeld ?_
            rotate_left
            · (intro w hSw; (try dsimp only at hSw); go_simp; all_goals with_reducible rfl)
            try simp only [Act.put, List.setIfInBounds_toArray, List.set_cons_zero, List.set_cons_succ]
            refine held_no (i := 2) (some 57) rfl rfl (by kernel_rfl) (by kernel_rfl) (by kernel_rfl) (fun _ _ _ h => h) (wanted_t rfl rfl rfl) hHeld ?_
            try simp only [Act.put, List.setIfInBounds_toArray, List.set_cons_zero, List.set_cons_succ]
            refine held_no (i := 3) (some 58) rfl rfl (by kernel_rfl) (by kernel_rfl) (by kernel_rfl) (fun _ _ _ h => h) (wanted_t rfl rfl rfl) hHeld ?_
            try simp only [Act.put, List.setIfInBounds_toArray, List.set_cons_zero, List.set_cons_succ]
            refine held_no (i := 4) (some 59) rfl rfl (by kernel_rfl) (by kernel_rfl) (by kernel_rfl) (fun _ _ _ h => h) (wanted_t rfl rfl rfl) hHeld ?_
            try simp only [Act.put, List.setIfInBounds_toArray, List.set_cons_zero, List.set_cons_succ]
            refine held_no (i := 5) (some 60) rfl rfl (by kernel_rfl) (by kernel_rfl) (by kernel_rfl) (fun _ _ _ h => h) (wanted_t rfl rfl rfl) hHeld ?_
            try simp only [Act.put, List.setIfInBounds_toArray, List.set_cons_zero, List.set_cons_succ]
            refine held_no (i := 6) (some 61) rfl rfl (by kernel_rfl) (by kernel_rfl) (by kernel_rfl) (fun _ _ _ h => h) (wanted_t rfl rfl rfl) hHeld ?_
            try simp only [Act.put, List.setIfInBounds_toArray, List.set_cons_zero, List.set_cons_succ]
            refine held_yes (i := 7) (some 62) (v := ?_) rfl rfl (by kernel_rfl) (by kernel_rfl) (by kernel_rfl) (fun _ _ _ h => h) (by rfl) ?_ hHeld ?_
            rotate_left
            · (intro w hSw; (try dsimp only at hSw); go_simp; all_goals with_reducible rfl)
            try simp only [Act.put, List.setIfInBounds_toArray, List.set_cons_zero, List.set_cons_succ]
            refine held_yes (i := 8) (some 63) (v := ?_) rfl rfl (by kernel_rfl) (by kernel_rfl) (by kernel_rfl) (fun _ _ _ h => h) (by rfl) ?_ hHeld ?_
            rotate_left
            · (intro w hSw; (try dsimp only at hSw); go_simp; all_goals with_reducible rfl)
            try simp only [Act.put, List.setIfInBounds_toArray, List.set_cons_zero, List.set_cons_succ]
            refine held_yes (i := 9) (some 64) (v := ?_) rfl rfl (by kernel_rfl) (by kernel_rfl) (by kernel_rfl) (fun _ _ _ h => h) (by rfl) ?_ hHeld ?_
            rotate_left
            · (intro w hSw; (try dsimp only at hSw); go_simp; all_goals with_reducible rfl)
            try simp only [Act.put, List.setIfInBounds_toArray, List.set_cons_zero, List.set_cons_succ]
            refine held_yes (i := 10) (some 65) (v := ?_) rfl rfl (by kernel_rfl) (by kernel_rfl) (by kernel_rfl) (fun _ _ _ h => h) (by rfl) ?_ hHeld ?_
            rotate_left
            · (intro w hSw; (try dsimp only at hSw); go_simp; all_goals with_reducible rfl)
            try simp only [Act.put, List.setIfInBounds_toArray, List.set_cons_zero, List.set_cons_succ]
            refine held_yes (i := 11) (some 66) (v := ?_) rfl rfl (by kernel_rfl) (by kernel_rfl) (by kernel_rfl) (fun _ _ _ h => h) (by rfl) ?_ hHeld ?_
            rotate_left
            · (intro w hSw; (try dsimp only at hSw); go_simp; all_goals with_reducible rfl)
            try simp only [Act.put, List.setIfInBounds_toArray, List.set_cons_zero, List.set_cons_succ]
            refine held_yes (i := 12) (some 67) (v := ?_) rfl rfl (by kernel_rfl) (by kernel_rfl) (by kernel_rfl) (fun _ _ _ h => h) (by rfl) ?_ hHeld ?_
            rotate_left
            · (intro w hSw; (try dsimp only at hSw); go_simp; all_goals with_reducible rfl)
            try simp only [Act.put, List.setIfInBounds_toArray, List.set_cons_zero, List.set_cons_succ]
            refine held_yes (i := 13) (some 68) (v := ?_) rfl rfl (by kernel_rfl) (by kernel_rfl) (by kernel_rfl) (fun _ _ _ h => h) (by rfl) ?_ hHeld ?_
            rotate_left
            · (intro w hSw; (try dsimp only at hSw); go_simp; all_goals with_reducible rfl)
            try simp only [Act.put, List.setIfInBounds_toArray, List.set_cons_zero, List.set_cons_succ]
            refine wpAnyH_ready (rs := [14]) (by kernel_rfl) (by simp) ?_
            refine (AllReadyH.cons rfl (fun K' hK' => ?_) AllReadyH.nil)
            go_simp
            (go_at_call 36; refine (order_any _ _ _ _ _).mono ?_; rintro e w7 ⟨rfl, b7⟩; have b7' : Below W6.heap.size W6 w7 := (Below.refl _ _).drew.trans (b7.mono (by simp)); have g2 := bcell b7' k1; have g3 := bcell b7' k2; have g4 := bcell b7' n0; have g5 := bcell b7' n1; have g6 := hlk _ (MT6.out.below b7'); have B7 := Lib.hid b7'; clear b7 b7')
            go_wp2_with fail
            refine hK'.out _ _ ?_ (fun hHeld => ?_)
            · first | exact ⟨by assumption, by assumption, by assumption, by assumption, by assumption⟩ | go_keep
            clear hK' K'
            try dsimp only at hHeld
            try simp only [Act.put, List.setIfInBounds_toArray, List.set_cons_zero, List.set_cons_succ]
            refine held_yes (i := 15) (some 70) (v := ?_) rfl rfl (by kernel_rfl) (by kernel_rfl) (by kernel_rfl) (fun _ _ _ h => h) (by rfl) ?_ hHeld ?_
            rotate_left
            · (intro w hSw; (try dsimp only at hSw); go_simp; all_goals with_reducible rfl)
            try simp only [Act.put, List.setIfInBounds_toArray, List.set_cons_zero, List.set_cons_succ]
            refine held_yes (i := 16) (some 71) (v := ?_) rfl rfl (by kernel_rfl) (by kernel_rfl) (by kernel_rfl) (fun _ _ _ h => h) (by rfl) ?_ hHeld ?_
            rotate_left
            · (intro w hSw; (try dsimp only at hSw); go_simp; all_goals with_reducible rfl)
            try simp only [Act.put, List.setIfInBounds_toArray, List.set_cons_zero, List.set_cons_succ]
            refine wpAnyH_done (by kernel_rfl) ?_ _
            go_wp2_with fail
            go_meet
            exact ⟨by rw [HE.out], B7.out⟩
      case rest =>
      obtain ⟨rfl, hb7⟩ := hcut
      obtain ⟨w7, rfl⟩ : ∃ w7 : World, w7 = wc := ⟨_, rfl⟩
      have hw6 := B6.out.size
      have MA7 := Lib.hid (MA6.out.below hb7)
      have MT7 := Lib.hid (MT6.out.below hb7)
      have K7 := Lib.hid (K6.out.fr (Fr.of_below hb7 : Fr S0 _ _) (fun h => h))
      have KP7 := Lib.hid (KP6.out.fr (Fr.of_below hb7 : Fr S0 _ _) (fun h => h))
      have KQ7 := Lib.hid (KQ6.out.fr (Fr.of_below hb7 : Fr S0 _ _) (fun h => h))
      have KS7 := Lib.hid (KS.out.fr (Fr.of_below hb7 : Fr S0 _ _) (fun h => h))
      have B7 := Lib.hid (bchain B6.out hb7)
      clear MA6 MT6 K6 KP6 KQ6 KS B6 hb7 hw6
      by_cases hbad : gbad A T ⟨nd, r, d, sl, v⟩
      · have HF : Hid (gwalk n [] [] 0 L = (none, (i : Int))) := by rw [Hid, HG.out, if_pos (.inr hbad)]
        rw [decide_eq_true hbad]
        clear HG hbad HBAD
        go_wp2_with fail
        go_returns
        exact .inr ⟨_, HF.out, rfl, B7.out⟩
      · obtain ⟨N, rfl⟩ : ∃ N : Nat, nd = (N : Int) := ⟨nd.toNat, by omega⟩
        have HN : Hid (gwalk n [] [] 0 L = gwalk n (gputA A ⟨N, r, d, sl, v⟩) (gputT T ⟨N, r, d, sl, v⟩) (i + 1) (L.drop (i + 1))) := by
          rw [Hid, HG.out, if_neg (by rintro (h | h); · rw [HAL.out] at h; cases h
                                      · exact hbad h)]
        have hNn : N < n := by omega
        have hsn : sn < 2 ^ n := by
          have h1 := HSD.out
          cases hg : getG (sl, r, d) A with
          | none => rw [hg] at h1; cases h1; exact Nat.pow_pos (by decide)
          | some s => rw [hg] at h1; cases h1; exact HND.out _ (getG_mem hg)
        have hbit := bitorN hn hsn hNn
        have HBL := Lib.hid (bit_ltN hsn hNn)
        have HPA : Hid (gputA A ⟨N, r, d, sl, v⟩ = putG (sl, r, d) (v, sn ||| 2 ^ N) A) := by
          rw [Hid]; unfold gputA; simp only [HSD.out]; rfl
        have HSN := Lib.hid hsn
        rw [decide_eq_false hbad]
        clear HG hbad HBAD hsn
        obtain ⟨es1, c1, hm1⟩ := MA7.out.block
        obtain ⟨es2, c2, hm2⟩ := MT7.out.block
        have hbx1 := K7.out.ne_map hm1
        have hbx2 := K7.out.ne_map hm2
        have hbs1 := KS7.out.ne_map hm1
        have hbs2 := KS7.out.ne_map hm2
        have hbp1 := KP7.out.ne_map hm1
        have hbp2 := KP7.out.ne_map hm2
        have hbq1 := KQ7.out.ne_map hm1
        have hbq2 := KQ7.out.ne_map hm2
        clear hm1 hm2
        have k0 := K7.out.cell (i := 0) (v := .int .i64 (N : Int)) rfl
        have k1 := K7.out.cell (i := 1) (v := .int .i64 r) rfl
        have k2 := K7.out.cell (i := 2) (v := .int .i64 d) rfl
        have k3 := K7.out.cell (i := 3) (v := .int .i64 sl) rfl
        have k4 := K7.out.cell (i := 4) (v := .string v) rfl
        have s1 := KS7.out.cell (i := 1) (v := .int .u64 (sn : Int)) rfl
        have p0 := KP7.out.cell (i := 0) (v := .int .i64 sl) rfl
        have p1 := KP7.out.cell (i := 1) (v := .int .i64 r) rfl
        have p2 := KP7.out.cell (i := 2) (v := .int .i64 d) rfl
        have n0 := KQ7.out.cell (i := 0) (v := .int .i64 (N : Int)) rfl
        have n1 := KQ7.out.cell (i := 1) (v := .int .i64 sl) rfl
        obtain ⟨v0, st, w8, hr8, hg8, hst8⟩ := entG (w := w7.drew) law_place Tryz.underlying77 (fun u => zeroSd u) MA7.out.drew (by omega) (sl, r, d) hip
        obtain ⟨w9, hr9, MA9', hg9⟩ := hst8 (v, sn ||| 2 ^ N)
        have MA9 := Lib.hid MA9'
        have MT9 := Lib.hid (MT7.out.drew.fr (Fr.of_grown hg9 (S := S1 m1) (fun i e => by cases e; rfl)) (fun e => hm12 e.symm))
        obtain ⟨wa, hra, MTa', hga⟩ := updG (w := w9) kLa Tryz.underlying120 MT9.out (by omega) ((N : Int), sl) hiq (r, d)
        have MTa := Lib.hid MTa'
        have MAa := Lib.hid (MA9.out.fr (Fr.of_grown hga (S := S1 m2) (fun i e => by cases e; rfl)) (fun e => hm12 e))
        have HST := Lib.hid hst8
        clear MA9' MTa' hst8
        go_upto_region 14 with fail
        refine wp_region_held_drew (S := (fun W => W.cell? ⟨bx, 0, none⟩ = some (.int .i64 (N : Int)) ∧ W.cell? ⟨bx, 1, none⟩ = some (.int .i64 r) ∧ W.cell? ⟨bx, 2, none⟩ = some (.int .i64 d) ∧ W.cell? ⟨bx, 3, none⟩ = some (.int .i64 sl) ∧ W.cell? ⟨bx, 4, none⟩ = some (.string v) ∧ W.cell? ⟨bs, 1, none⟩ = some (.int .u64 (sn : Int)) ∧ W.cell? ⟨bp, 0, none⟩ = some (.int .i64 sl) ∧ W.cell? ⟨bp, 1, none⟩ = some (.int .i64 r) ∧ W.cell? ⟨bp, 2, none⟩ = some (.int .i64 d) ∧ W.cell? ⟨bq, 0, none⟩ = some (.int .i64 (N : Int)) ∧ W.cell? ⟨bq, 1, none⟩ = some (.int .i64 sl))) (by kernel_rfl) ?_ (fun hHeld => ?_)
        · exact ⟨by assumption, by assumption, by assumption, by assumption, by assumption, by assumption, by assumption, by assumption, by assumption, by assumption, by assumption⟩
        try dsimp only at hHeld
        refine held_yes (i := 0) (some 73) (v := ?_) rfl rfl (by kernel_rfl) (by kernel_rfl) (by kernel_rfl) (fun _ _ _ h => h) (by rfl) ?_ hHeld ?_
        rotate_left
        · (intro w hSw; (try dsimp only at hSw); go_simp; all_goals with_reducible rfl)
        try simp only [Act.put, List.setIfInBounds_toArray, List.set_cons_zero, List.set_cons_succ]
        refine held_yes (i := 1) (some 74) (v := ?_) rfl rfl (by kernel_rfl) (by kernel_rfl) (by kernel_rfl) (fun _ _ _ h => h) (by rfl) ?_ hHeld ?_
        rotate_left
        · (intro w hSw; (try dsimp only at hSw); go_simp; all_goals with_reducible rfl)
        try simp only [Act.put, List.setIfInBounds_toArray, List.set_cons_zero, List.set_cons_succ]
        refine held_yes (i := 2) (some 75) (v := ?_) rfl rfl (by kernel_rfl) (by kernel_rfl) (by kernel_rfl) (fun _ _ _ h => h) (by rfl) ?_ hHeld ?_
        rotate_left
        · (intro w hSw; (try dsimp only at hSw); go_simp; all_goals with_reducible rfl)
        try simp only [Act.put, List.setIfInBounds_toArray, List.set_cons_zero, List.set_cons_succ]
        refine held_yes (i := 3) (some 76) (v := ?_) rfl rfl (by kernel_rfl) (by kernel_rfl) (by kernel_rfl) (fun _ _ _ h => h) (by rfl) ?_ hHeld ?_
        rotate_left
        · (intro w hSw; (try dsimp only at hSw); go_simp; all_goals with_reducible rfl)
        try simp only [Act.put, List.setIfInBounds_toArray, List.set_cons_zero, List.set_cons_succ]
        refine held_yes (i := 4) (some 77) (v := ?_) rfl rfl (by kernel_rfl) (by kernel_rfl) (by kernel_rfl) (fun _ _ _ h => h) (by rfl) ?_ hHeld ?_
        rotate_left
        · (intro w hSw; (try dsimp only at hSw); go_simp; all_goals with_reducible rfl)
        try simp only [Act.put, List.setIfInBounds_toArray, List.set_cons_zero, List.set_cons_succ]
        refine held_yes (i := 5) (some 78) (v := ?_) rfl rfl (by kernel_rfl) (by kernel_rfl) (by kernel_rfl) (fun _ _ _ h => h) (by rfl) ?_ hHeld ?_
        rotate_left
        · (intro w hSw; (try dsimp only at hSw); go_simp; all_goals with_reducible rfl)
        try simp only [Act.put, List.setIfInBounds_toArray, List.set_cons_zero, List.set_cons_succ]
        refine held_yes (i := 6) (some 79) (v := ?_) rfl rfl (by kernel_rfl) (by kernel_rfl) (by kernel_rfl) (fun _ _ _ h => h) (by rfl) ?_ hHeld ?_
        rotate_left
        · (intro w hSw; (try dsimp only at hSw); go_simp; all_goals with_reducible rfl)
        try simp only [Act.put, List.setIfInBounds_toArray, List.set_cons_zero, List.set_cons_succ]
        refine held_yes (i := 7) (some 80) (v := ?_) rfl rfl (by kernel_rfl) (by kernel_rfl) (by kernel_rfl) (fun _ _ _ h => h) (by rfl) ?_ hHeld ?_
        rotate_left
        · (intro w hSw; (try dsimp only at hSw); go_simp; all_goals with_reducible rfl)
        try simp only [Act.put, List.setIfInBounds_toArray, List.set_cons_zero, List.set_cons_succ]
        refine held_yes (i := 8) (some 81) (v := ?_) rfl rfl (by kernel_rfl) (by kernel_rfl) (by kernel_rfl) (fun _ _ _ h => h) (by rfl) ?_ hHeld ?_
        rotate_left
        · (intro w hSw; (try dsimp only at hSw); go_simp; all_goals with_reducible rfl)
        try simp only [Act.put, List.setIfInBounds_toArray, List.set_cons_zero, List.set_cons_succ]
        refine held_yes (i := 9) (some 82) (v := ?_) rfl rfl (by kernel_rfl) (by kernel_rfl) (by kernel_rfl) (fun _ _ _ h => h) (by rfl) ?_ hHeld ?_
        rotate_left
        · (intro w hSw; (try dsimp only at hSw); go_simp; all_goals with_reducible rfl)
        try simp only [Act.put, List.setIfInBounds_toArray, List.set_cons_zero, List.set_cons_succ]
        refine held_yes (i := 10) (some 83) (v := ?_) rfl rfl (by kernel_rfl) (by kernel_rfl) (by kernel_rfl) (fun _ _ _ h => h) (by rfl) ?_ hHeld ?_
        rotate_left
        · (intro w hSw; (try dsimp only at hSw); go_simp; all_goals with_reducible rfl)
        try simp only [Act.put, List.setIfInBounds_toArray, List.set_cons_zero, List.set_cons_succ]
        refine held_yes (i := 11) (some 84) (v := ?_) rfl rfl (by kernel_rfl) (by kernel_rfl) (by kernel_rfl) (fun _ _ _ h => h) (by rfl) ?_ hHeld ?_
        rotate_left
        · (intro w hSw; (try dsimp only at hSw); go_simp; all_goals with_reducible rfl)
        try simp only [Act.put, List.setIfInBounds_toArray, List.set_cons_zero, List.set_cons_succ]
        refine held_yes (i := 12) (some 85) (v := ?_) rfl rfl (by kernel_rfl) (by kernel_rfl) (by kernel_rfl) (fun _ _ _ h => h) (by rfl) ?_ hHeld ?_
        rotate_left
        · (intro w hSw; (try dsimp only at hSw); go_simp; all_goals with_reducible rfl)
        try simp only [Act.put, List.setIfInBounds_toArray, List.set_cons_zero, List.set_cons_succ]
        refine held_yes (i := 13) (some 86) (v := ?_) rfl rfl (by kernel_rfl) (by kernel_rfl) (by kernel_rfl) (fun _ _ _ h => h) (by rfl) ?_ hHeld ?_
        rotate_left
        · (intro w hSw; (try dsimp only at hSw); go_simp; all_goals with_reducible rfl)
        try simp only [Act.put, List.setIfInBounds_toArray, List.set_cons_zero, List.set_cons_succ]
        refine held_yes (i := 14) (some 87) (v := ?_) rfl rfl (by kernel_rfl) (by kernel_rfl) (by kernel_rfl) (fun _ _ _ h => h) (by rfl) ?_ hHeld ?_
        rotate_left
        · (intro w hSw; (try dsimp only at hSw); go_simp; all_goals with_reducible rfl)
        try simp only [Act.put, List.setIfInBounds_toArray, List.set_cons_zero, List.set_cons_succ]
        refine wpAnyH_ready (rs := [15]) (by kernel_rfl) (by simp) ?_
        refine (AllReadyH.cons rfl (fun K' hK' => ?_) AllReadyH.nil)
        (refine step_ent rfl _ _ _ rfl rfl rfl hr8 ?_; have k0x := grown_cell (p := ⟨bx, 0, none⟩) hg8 hbx1 k0; have k1x := grown_cell (p := ⟨bx, 1, none⟩) hg8 hbx1 k1; have k2x := grown_cell (p := ⟨bx, 2, none⟩) hg8 hbx1 k2; have k3x := grown_cell (p := ⟨bx, 3, none⟩) hg8 hbx1 k3; have k4x := grown_cell (p := ⟨bx, 4, none⟩) hg8 hbx1 k4; have s1x := grown_cell (p := ⟨bs, 1, none⟩) hg8 hbs1 s1; have p0x := grown_cell (p := ⟨bp, 0, none⟩) hg8 hbp1 p0; have p1x := grown_cell (p := ⟨bp, 1, none⟩) hg8 hbp1 p1; have p2x := grown_cell (p := ⟨bp, 2, none⟩) hg8 hbp1 p2; have n0x := grown_cell (p := ⟨bq, 0, none⟩) hg8 hbq1 n0; have n1x := grown_cell (p := ⟨bq, 1, none⟩) hg8 hbq1 n1)
        refine hK'.out _ _ ?_ (fun hHeld => ?_)
        · exact ⟨by assumption, by assumption, by assumption, by assumption, by assumption, by assumption, by assumption, by assumption, by assumption, by assumption, by assumption⟩
        clear hK' K'
        try dsimp only at hHeld
        try simp only [Act.put, List.setIfInBounds_toArray, List.set_cons_zero, List.set_cons_succ]
        refine held_yes (i := 16) (some 89) (v := ?_) rfl rfl (by kernel_rfl) (by kernel_rfl) (by kernel_rfl) (fun _ _ _ h => h) (by rfl) ?_ hHeld ?_
        rotate_left
        · (intro w hSw; (try dsimp only at hSw); go_simp; all_goals with_reducible rfl)
        try simp only [Act.put, List.setIfInBounds_toArray, List.set_cons_zero, List.set_cons_succ]
        refine wpAnyH_ready (rs := [17]) (by kernel_rfl) (by simp) ?_
        refine (AllReadyH.cons rfl (fun K' hK' => ?_) AllReadyH.nil)
        (refine step_est rfl _ _ _ _ rfl rfl rfl rfl hr9 ?_; have k0y := grown_cell (p := ⟨bx, 0, none⟩) hg9 hbx1 k0; have k1y := grown_cell (p := ⟨bx, 1, none⟩) hg9 hbx1 k1; have k2y := grown_cell (p := ⟨bx, 2, none⟩) hg9 hbx1 k2; have k3y := grown_cell (p := ⟨bx, 3, none⟩) hg9 hbx1 k3; have k4y := grown_cell (p := ⟨bx, 4, none⟩) hg9 hbx1 k4; have s1y := grown_cell (p := ⟨bs, 1, none⟩) hg9 hbs1 s1; have p0y := grown_cell (p := ⟨bp, 0, none⟩) hg9 hbp1 p0; have p1y := grown_cell (p := ⟨bp, 1, none⟩) hg9 hbp1 p1; have p2y := grown_cell (p := ⟨bp, 2, none⟩) hg9 hbp1 p2; have n0y := grown_cell (p := ⟨bq, 0, none⟩) hg9 hbq1 n0; have n1y := grown_cell (p := ⟨bq, 1, none⟩) hg9 hbq1 n1)
        refine hK'.out _ _ ?_ (fun hHeld => ?_)
        · exact ⟨by assumption, by assumption, by assumption, by assumption, by assumption, by assumption, by assumption, by assumption, by assumption, by assumption, by assumption⟩
        clear hK' K'
        try dsimp only at hHeld
        try simp only [Act.put, List.setIfInBounds_toArray, List.set_cons_zero, List.set_cons_succ]
        refine wpAnyH_ready (rs := [18]) (by kernel_rfl) (by simp) ?_
        refine (AllReadyH.cons rfl (fun K' hK' => ?_) AllReadyH.nil)
        (refine step_upd rfl _ _ _ _ rfl rfl rfl rfl hra ?_; have k0z := grown_cell (p := ⟨bx, 0, none⟩) hga hbx2 k0y; have k1z := grown_cell (p := ⟨bx, 1, none⟩) hga hbx2 k1y; have k2z := grown_cell (p := ⟨bx, 2, none⟩) hga hbx2 k2y; have k3z := grown_cell (p := ⟨bx, 3, none⟩) hga hbx2 k3y; have k4z := grown_cell (p := ⟨bx, 4, none⟩) hga hbx2 k4y; have s1z := grown_cell (p := ⟨bs, 1, none⟩) hga hbs2 s1y; have p0z := grown_cell (p := ⟨bp, 0, none⟩) hga hbp2 p0y; have p1z := grown_cell (p := ⟨bp, 1, none⟩) hga hbp2 p1y; have p2z := grown_cell (p := ⟨bp, 2, none⟩) hga hbp2 p2y; have n0z := grown_cell (p := ⟨bq, 0, none⟩) hga hbq2 n0y; have n1z := grown_cell (p := ⟨bq, 1, none⟩) hga hbq2 n1y)
        refine hK'.out _ _ ?_ (fun hHeld => ?_)
        · exact ⟨by assumption, by assumption, by assumption, by assumption, by assumption, by assumption, by assumption, by assumption, by assumption, by assumption, by assumption⟩
        clear hK' K'
        try dsimp only at hHeld
        try simp only [Act.put, List.setIfInBounds_toArray, List.set_cons_zero, List.set_cons_succ]
        refine wpAnyH_done (by kernel_rfl) ?_ _
        have Ba : Hid (Below w.heap.size w wa) := Fr.upB (Fr.upB B7.out.drew (Fr.of_grown hg9 (S := S1 m1) (fun i e => by cases e; rfl)) (fun i e => by have e : i = m1 := e; omega)) (Fr.of_grown hga (S := S1 m2) (fun i e => by cases e; rfl)) (fun i e => by have e : i = m2 := e; omega)
        have hl1 := putG_len (sl, r, d) (v, sn ||| 2 ^ N) A
        have hl2 := putG_len ((N : Int), sl) (r, d) T
        go_wp2_with fail
        go_roundg (L.length - (i + 1))
        case measure => omega
        case rel =>
          refine ⟨i + 1, _, _, by omega, rfl, by go_num, HN.out, by rw [HPA.out]; exact MAa.out, MTa.out, by rw [HPA.out]; omega, by show (putG ((N : Int), sl) (r, d) T).length ≤ i + 1; omega, ?_, Ba.out⟩
          rw [HPA.out]
          intro p hp
          rcases mem_putG.1 hp with rfl | ⟨hp, _⟩
          · exact HBL.out
          · exact HND.out p hp

theorem gather_no (n : Int) (v : Value) (L : List Vt) (w : World) (h : VotesIn w v L) (hn : ¬ (1 ≤ n ∧ n ≤ 7)) :
    Calls Tryz.prog 33 #[v, .int .i64 n] w fun e w' => e = .returned (.tuple #[.map none, .int .i64 0, .int .i64 2]) ∧ Below w.heap.size w w' := by
  have HN := Lib.hid hn
  clear hn
  go_enter Tryz.func33, Tryz.ntmps33
  go_wp2_with (go_at_call 59; refine (size_any _ _).mono ?_; rw [if_neg HN.out]; rintro e w1 ⟨⟨k, rfl⟩, b1⟩; have B1 := Lib.hid b1; clear b1)
  go_returns
  exact ⟨rfl, B1.out⟩
end Go.Proofs.YthkdmpalhdifbaaGreatDoor
