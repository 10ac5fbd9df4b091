/- Package chosen: picked. -/
import Derived.Test.YthkdmpalhdifbaaGreatDoorChoI
import Derived.Maps.RangeWalk
import Derived.Deep.AppendLies
import Derived.Deep.DeepMust
import Derived.Deep.RegionHeld3
import Derived.Deep.DeepCutAuto
import Derived.Deep.CutBlock
import Derived.Deep.LoopGhost
set_option linter.unusedVariables false
set_option linter.unusedSimpArgs false
namespace Go.Proofs.YthkdmpalhdifbaaGreatDoor
open Go.RowKit Go.Maps Go.Shelf Go.Sort

theorem perm_step {κ β : Type} [DecidableEq κ] {P P' : κ × β → Bool} {x : κ} {e : β} : ∀ {A : List (κ × β)}, Dst A → (x, e) ∈ A → P (x, e) = false → P' (x, e) = true → (∀ q ∈ A, q.1 ≠ x → P' q = P q) → (A.filter P').Perm (A.filter P ++ [(x, e)])
  | y :: r, hd, hm, h0, h1, hne => by
    have hp := List.pairwise_cons.1 hd
    rcases List.mem_cons.1 hm with rfl | hm
    · have hr : r.filter P' = r.filter P := List.filter_congr fun q hq => hne q (by simp [hq]) (hp.1 q hq).symm
      rw [List.filter_cons, if_pos h1, List.filter_cons, if_neg (by rw [h0]; simp), hr]
      exact (List.perm_append_comm (l₁ := r.filter P) (l₂ := [(x, e)])).symm
    · have hy : y.1 ≠ x := hp.1 (x, e) hm
      have ih := perm_step hp.2 hm h0 h1 (fun q hq => hne q (by simp [hq]))
      have hyy := hne y (by simp) hy
      rw [List.filter_cons, List.filter_cons, hyy]
      split
      · exact ih.cons y
      · exact ih
def lefts {κ β : Type} [DecidableEq κ] {P : Program} {k : TypeId} (C : KeyC P k κ) (left : Lit → Bool) (A : List (κ × β)) : List (κ × β) := A.filter fun q => !left (C.lit q.1)
theorem lefts_none {κ β : Type} [DecidableEq κ] {P : Program} {k : TypeId} {C : KeyC P k κ} {left : Lit → Bool} {A : List (κ × β)} (h : ∀ q ∈ A, left (C.lit q.1) = true) : lefts C left A = [] := by
  unfold lefts
  rw [List.filter_eq_nil_iff]
  intro q hq
  rw [h q hq]
  simp
theorem lefts_all {κ β : Type} [DecidableEq κ] {P : Program} {k : TypeId} {C : KeyC P k κ} {left : Lit → Bool} {A : List (κ × β)} (h : ∀ kl, left kl = false) : lefts C left A = A := by
  unfold lefts
  rw [List.filter_eq_self]
  intro q hq
  rw [h]
  rfl
theorem lefts_step {κ β : Type} [DecidableEq κ] {P : Program} {k : TypeId} {C : KeyC P k κ} (K : Keyed P k) {left : Lit → Bool} {A : List (κ × β)} {x : κ} {e : β} (hd : Dst A) (hok : ∀ p ∈ A, C.ok p.1) (hm : (x, e) ∈ A) (hl : left (C.lit x) = true) :
    (lefts C (fun z => left z && !z.sameKey (C.lit x)) A).Perm (lefts C left A ++ [(x, e)]) := by
  refine perm_step hd hm (by simp [hl]) ?_ (fun q hq hne => ?_)
  · simp only
    rw [show (C.lit x).sameKey (C.lit x) = true from WideAt.sameKey_self (K.key (C.key x (hok _ hm)))]
    simp
  · have : (C.lit q.1).sameKey (C.lit x) = false := by
      rw [Bool.eq_false_iff]
      intro hs
      exact hne (lit_inj K (hok _ hq) (hok _ hm) (WideAt.sameKey_eq hs))
    simp only [this]
    simp
theorem cells_new (w : World) (t : TypeId) (cs : List Value) : ∀ j u, cs[j]? = some u → (w.alloc (.cells cs.toArray t)).cell? ((⟨w.heap.size, 0, none⟩ : Addr).add j) = some u := fun j u h => by
  have h1 := (Blk.new w t cs.toArray).cell (i := j) (v := u) (by simpa using h)
  rw [show ((⟨w.heap.size, 0, none⟩ : Addr).add j) = ⟨w.heap.size, j, none⟩ by simp [Addr.add]; exact fun h => h.symm]
  exact h1
theorem strRow_cells {w : World} {lo : Nat} {v : Value} {xs : List (List UInt8)} (h : StrRow w lo v xs) (h0 : xs ≠ []) :
    ∃ g cap, v = .slice (some ⟨g, 0, none⟩) xs.length cap ∧ lo ≤ g ∧ g < w.heap.size ∧ ∀ j, j < xs.length → w.cell? ⟨g, j, none⟩ = some (encStr (xs.getD j [])) := by
  rcases h.2 with ⟨rfl, hn⟩ | ⟨g, cap, cur, rfl, hb, hg, hle, hcap, hsz, htake⟩
  · exact absurd (List.length_eq_zero_iff.1 hn) h0
  · have hH : Holds encStr w g 0 xs.toArray := holds_of_block hg (by simpa using htake)
    refine ⟨g, cap, rfl, hb, (Array.getElem?_eq_some_iff.1 hg).1, fun j hj => ?_⟩
    have := (hH j (by simpa using hj)).1
    rw [Nat.zero_add] at this
    rw [this]
    simp [hj]
theorem upF_getD (xs : List (List UInt8)) : upF (fun j => xs.getD j []) xs.length = xs := by
  unfold upF
  apply List.ext_getElem
  · simp
  · intro i h1 h2
    simp [h2]
theorem enRow_snoc {w : World} {lo : Nat} {v : Value} {D : List (Int × Fv)} {s : Int} {e : Fv} (h : w.ownsRow lo 58 4 v ((D.map toEn).length + 1) (flat encEn (D.map toEn) ++ [.int .i64 e.1, .int .i64 e.2.1.1, .int .i64 e.2.1.2, .string e.2.2])) (hs : 0 ≤ s ∧ s < 4096) (he : e.1 = s) :
    EnRow w lo v ((D ++ [(s, e)]).map toEn) := by
  unfold EnRow
  have e1 : flat encEn ((D ++ [(s, e)]).map toEn) = flat encEn (D.map toEn) ++ [.int .i64 e.1, .int .i64 e.2.1.1, .int .i64 e.2.1.2, .string e.2.2] := by
    rw [List.map_append]
    unfold flat
    rw [List.flatMap_append]
    simp [encEn_to hs he]
  rw [e1]
  simpa using h
theorem info_en : (Tryz.prog.info? 58).map (fun i => (i.zero, i.size, i.bytes)) = some (some (enV (0, (0, 0), ⟨#[]⟩)), 4, 40) := by kernel_rfl
theorem grown_of {w w' : World} (h : Below w.heap.size w w') (row : Option Nat) : w.grownBy w' row := ⟨h.os, h.tape, h.output, h.size, fun i hi _ => h.block i hi⟩
theorem zeroEn (w : World) : (zeroValue 58).run Tryz.prog w = .ok (enV (0, (0, 0), ⟨#[]⟩)) w := by kernel_rfl
theorem zeroSl (w : World) : (zeroValue 134).run Tryz.prog w = .ok (.slice none 0 0) w := by kernel_rfl

/-- The end of a round of the first loop. -/
theorem picked_leaf {n b rr m3 m4 cnt : Nat} {A Q : GA} {F' : List (Int × Fv)} {V : List (Int × Value)} {w W wa wb : World} {left : Lit → Bool} {sl r d : Int} {v : ByteArray} {x g cap bp : Nat}
    (hr : W.ranges Tryz.prog 84 RV b rr A.length (datG CPl sdV A) left cnt) (hga : W.grownBy wa (rowOf V sl).ownBlock) (hgb : wa.grownBy wb (some m4))
    (hp : (Q ++ [((sl, r, d), (v, x))]).Perm (lefts CPl left A)) (hf : FOk n (Q ++ [((sl, r, d), (v, x))]) F') (mf : MapG CIn enV W m3 F') (mv : VMap W m4 (rr + 1) n Q V) (hmj : mj n ((sl, r, d), (v, x)) = true)
    (hra : wa.ownsRow (rr + 1) 9 1 (.slice (some ⟨g, 0, none⟩) ((valsOf n Q sl).length + 1) cap) ((valsOf n Q sl).length + 1) ((valsOf n Q sl).map encStr ++ [.string v])) (hoa : (rowOf V sl).ownBlock = some g ∨ g = W.heap.size)
    (hmb : MapG CIn (id : Value → Value) wb m4 (putG sl (.slice (some ⟨g, 0, none⟩) ((valsOf n Q sl).length + 1) cap) V)) (hB : Below w.heap.size w W)
    (hord : m3 < m4 ∧ m4 < rr ∧ w.heap.size ≤ m3 ∧ b < m3) (hrb : ∀ g, (rowOf V sl).ownBlock = some g → rr + 1 ≤ g ∧ g < bp) (hfl : F'.length ≤ Q.length + 1) (hvl : V.length ≤ Q.length) :
    ∃ (left : Lit → Bool) (Q : GA) (F : List (Int × Fv)) (V : List (Int × Value)), wb.ranges Tryz.prog 84 RV b rr A.length (datG CPl sdV A) left cnt ∧ Q.Perm (lefts CPl left A) ∧ FOk n Q F ∧ MapG CIn enV wb m3 F ∧ VMap wb m4 (rr + 1) n Q V ∧ F.length ≤ Q.length ∧ V.length ≤ Q.length ∧ Below w.heap.size w wb := by
  have fa : Fr (fun i => (rowOf V sl).ownBlock = some i) W wa := Fr.of_grown hga (fun i e => e)
  have fb : Fr (S1 m4) wa wb := Fr.of_grown hgb (fun i e => by cases e; rfl)
  have hl1 := putG_len sl (Value.slice (some ⟨g, 0, none⟩) ((valsOf n Q sl).length + 1) cap) V
  refine ⟨left, _, F', _, (hr.kept hga ?_ ?_).kept hgb ?_ ?_, hp, hf, (mf.fr fa ?_).fr fb ?_, mv.take hmj ?_ hga ?_ hmb hgb, ?_, ?_, Fr.upB (Fr.upB hB fa ?_) fb ?_⟩
  · intro e; have := hrb _ e.symm; omega
  · intro e; have := hrb _ e.symm; omega
  · intro e; have e : b = m4 := Option.some.inj e; omega
  · intro e; have e : rr = m4 := Option.some.inj e; omega
  · intro e; have := hrb _ e; omega
  · intro e; have e : m3 = m4 := e; omega
  · unfold StrRow
    rw [List.length_append, List.map_append]
    exact hra
  · rcases hoa with h | h
    · left; rw [h]; rfl
    · right; rw [← h]; rfl
  · simp; omega
  · simp; omega
  · intro i e; have := hrb _ e; omega
  · intro i e; have e : i = m4 := e; omega

set_option maxRecDepth 100000 in
set_option maxHeartbeats 4000000 in
theorem picked_any (n b : Nat) (A : GA) (w : World) (hA : MapG CPl sdV w b A) (hn : 1 ≤ n ∧ n ≤ 7) (hset : ∀ p ∈ A, p.2.2 < 2 ^ n) (hsl : ∀ p ∈ A, 0 ≤ p.1.1 ∧ p.1.1 < 4096) (hlen : A.length ≤ 1000) :
    Calls Tryz.prog 45 #[.map (some b), .int .i64 (n : Int)] w fun e w' => ∃ v out dif, e = .returned (.tuple #[v, .int .i64 dif]) ∧ EnRow w' w.heap.size v out ∧ POk n A out dif ∧ Below w.heap.size w w' := by
  obtain ⟨i1, hj, hy0, hy1, hy2⟩ := info_parts info_en
  have HJ := Lib.hid hj
  have HY0 := Lib.hid hy0
  have HY1 := Lib.hid hy1
  have HY2 := Lib.hid hy2
  clear hj hy0 hy1 hy2
  obtain ⟨i0, hi, hz0, hz1, hz2⟩ := info_parts info_str
  have HI := Lib.hid hi
  have HZ0 := Lib.hid hz0
  have HZ1 := Lib.hid hz1
  have HZ2 := Lib.hid hz2
  clear hi hz0 hz1 hz2
  have HD := Lib.hid hA.dst
  have HOK := Lib.hid hA.ok
  have hmm := @run_makeMap Tryz.prog
  have hblt := hA.lt
  have MA0 := Lib.hid hA
  have HSET := Lib.hid hset
  have HSL := Lib.hid hsl
  clear hA hset hsl
  go_enter Tryz.func45, Tryz.ntmps45
  go_upto_region 3 with fail
  have MF0 : Hid (MapG CIn enV ((w.alloc (.map #[] 0)).alloc (.map #[] 0)) w.heap.size []) := (MapG.made CIn enV w).alloc _
  have MV0 : Hid (MapG CIn (id : Value → Value) ((w.alloc (.map #[] 0)).alloc (.map #[] 0)) (w.heap.size + 1) []) := by
    have := MapG.made CIn (id : Value → Value) (w.alloc (.map #[] 0))
    rwa [World.size_alloc] at this
  have hB0 : Below w.heap.size w ((w.alloc (.map #[] 0)).alloc (.map #[] 0)) := (box_below w _).alloc (by simp) _
  have MA := Lib.hid (MA0.out.below hB0)
  have B0 := Lib.hid hB0
  have hs2 : ((w.alloc (.map #[] 0)).alloc (.map #[] 0)).heap.size = w.heap.size + 2 := by simp
  have HS2 := Lib.hid hs2
  clear hB0 MA0 hs2
  generalize ((w.alloc (.map #[] 0)).alloc (.map #[] 0)) = W2 at *
  go_wp2_with (first
    | (at_range; refine wpList_range_own _ rfl _ 77 rfl 84 91 kPl Tryz.underlying77 _ b _ _ rfl MA.out.own ?_; intro w1 hr1 hg1 hs1))
  go_frame
  have hb1 : Below w.heap.size w w1 := B0.out.trans ⟨hg1.os, hg1.tape, hg1.output, hg1.size, fun i hi => hg1.block i (by have := HS2.out; omega) (fun e => by cases e)⟩
  have B1 := Lib.hid hb1
  have HR1 := Lib.hid hr1
  have MF1 := Lib.hid (MF0.out.fr (Fr.of_grown hg1 (S := S0) (fun i e => by cases e)) (fun e => e))
  have MV1 := Lib.hid (MV0.out.fr (Fr.of_grown hg1 (S := S0) (fun i e => by cases e)) (fun e => e))
  obtain ⟨m3, hm3⟩ : ∃ m3, m3 = w.heap.size := ⟨_, rfl⟩
  obtain ⟨m4, hm4⟩ : ∃ m4, m4 = w.heap.size + 1 := ⟨_, rfl⟩
  obtain ⟨rr, hrr⟩ : ∃ rr, rr = W2.heap.size := ⟨_, rfl⟩
  have hord : m3 < m4 ∧ m4 < rr ∧ w.heap.size ≤ m3 ∧ b < m3 := by have := HS2.out; omega
  have hrl : rr < w1.heap.size := by omega
  rw [← hrr] at HR1 ⊢
  rw [← hm4] at MV1 ⊢
  rw [← hm3] at MF1 ⊢
  clear hg1 hr1 hs1 hrr hm3 hm4 MF0 MV0 MA B0 HS2 hb1 hblt
  go_wp2_with fail
  go_loopg [] (Maps.size (datG CPl sdV A)) (fun g wr => ∃ (left : Lit → Bool) (Q : GA) (F : List (Int × Fv)) (V : List (Int × Value)), wr.ranges Tryz.prog 84 RV b rr A.length (datG CPl sdV A) left g ∧ Q.Perm (lefts CPl left A) ∧ FOk n Q F ∧ MapG CIn enV wr m3 F ∧ VMap wr m4 (rr + 1) n Q V ∧ F.length ≤ Q.length ∧ V.length ≤ Q.length ∧ Below w.heap.size w wr)
  case atStart =>
    refine ⟨_, [], [], [], HR1.out, ?_, FOk.nil n, MF1.out, ⟨MV1.out, fun s => World.ownsRow_nil _ _ _ _, fun s t _ g hg => absurd hg (by simp [rowOf, getG, Value.ownBlock]), by omega⟩, by simp, by simp, B1.out⟩
    rw [lefts_none]
    intro q hq
    rw [datG_has kPl HD.out HOK.out q.1 (HOK.out q hq), getG_of_mem HD.out (show (q.1, q.2) ∈ A from hq)]
    rfl
  case round =>
    clear HR1 MF1 MV1 B1 hrl
    obtain ⟨left, Q, F, V, hrg, hperm, hfok, hmf, hmv, hfl, hvl, hB⟩ := hrel
    have HRG := Lib.hid hrg
    have HP := Lib.hid hperm
    have HF := Lib.hid hfok
    have MF := Lib.hid hmf
    have MV := Lib.hid hmv
    have hql : Q.length ≤ 1000 := by
      rw [hperm.length_eq]
      exact Nat.le_trans (List.length_filter_le _ _) hlen
    have B := Lib.hid hB
    clear hrg hperm hfok hmf hmv hB
    go_wp2_with (first
      | (at_next; refine wpList_nextG _ kPl rfl _ rfl b rr _ A HD.out HOK.out left _ rfl HRG.out ?_ ?_))
    · -- NO ENTRY IS LEFT
      intro h0 hl
      have HQA : Hid (Q.Perm A) := by have := HP.out; rwa [lefts_all hl] at this
      have hrr := HRG.out.lt
      clear h0 HRG HP HSET hl
      go_wp2_with (first
        | (at_range; refine wpList_range_own _ rfl _ 131 rfl 3 58 kIn Tryz.underlying131 _ m3 _ _ rfl MF.out.own ?_; intro w1 hr1 hg1 hs1))
      go_frame
      have fr1 : Fr S0 wr w1 := Fr.of_grown hg1 (fun i e => by cases e)
      have HR1 := Lib.hid hr1
      have MF1 := Lib.hid (MF.out.fr fr1 (fun e => e))
      have MV1 := Lib.hid (MV.out.fr fr1 (fun i h => h.elim))
      have B1 := Lib.hid (Fr.upB B.out fr1 (fun i h => h.elim))
      have HDF := Lib.hid MF.out.dst
      have HOKF := Lib.hid MF.out.ok
      have hwz := B.out.size
      obtain ⟨r2, hr2⟩ : ∃ r2, r2 = wr.heap.size := ⟨_, rfl⟩
      have HVB : Hid (∀ s g, (rowOf V s).ownBlock = some g → rr + 1 ≤ g ∧ g < r2) := fun s g hg => by have := World.ownsRow.lt (MV.out.rows s) g hg; omega
      have hr2z : rr < r2 ∧ w.heap.size ≤ r2 := by omega
      rw [← hr2] at HR1 ⊢
      clear hg1 hr1 hs1 hr2 MF MV B fr1 hrr hwz
      go_wp2_with fail
      go_loopg [15, 7] (Maps.size (datG CIn enV F)) (fun g c15 c7 wr => ∃ (vo : Value) (left : Lit → Bool) (D : List (Int × Fv)) (dif : Int), vo = c15 ∧ c7 = .int .i64 dif ∧ wr.ranges Tryz.prog 3 RV m3 r2 F.length (datG CIn enV F) left g ∧ D.Perm (lefts CIn left F) ∧ EnRow wr (r2 + 1) vo (D.map toEn) ∧ DOk n Q D dif ∧ MapG CIn enV wr m3 F ∧ VMap wr m4 (rr + 1) n Q V ∧ Below w.heap.size w wr)
      case atStart =>
        refine ⟨_, _, [], -1, rfl, rfl, HR1.out, ?_, World.ownsRow_nil _ _ _ _, DOk.nil n Q, MF1.out, MV1.out, B1.out⟩
        rw [lefts_none]
        intro q hq
        rw [datG_has kIn HDF.out HOKF.out q.1 (HOKF.out q hq), getG_of_mem HDF.out (show (q.1, q.2) ∈ F from hq)]
        rfl
      case round =>
        clear HR1 MF1 MV1 B1
        obtain ⟨vo, left, D, dif, rfl, rfl, hrg, hperm, hrow, hdok, hmf, hmv, hB⟩ := hrel
        have HRG := Lib.hid hrg
        have HP := Lib.hid hperm
        have ROW := Lib.hid hrow
        have HDO := Lib.hid hdok
        have MF := Lib.hid hmf
        have MV := Lib.hid hmv
        have B := Lib.hid hB
        have hdl : D.length ≤ 1000 := by
          rw [hperm.length_eq]
          exact Nat.le_trans (List.length_filter_le _ _) (by omega)
        have hvo : ∀ g, vo.ownBlock = some g → r2 + 1 ≤ g ∧ g < wr.heap.size := fun g hg => World.ownsRow.lt hrow g hg
        clear hrg hperm hrow hdok hmf hmv hB
        go_wp2_with (first
          | (at_next; refine wpList_nextG _ kIn rfl _ rfl m3 r2 _ F HDF.out HOKF.out left _ rfl HRG.out ?_ ?_))
        · -- NO ENTRY IS LEFT
          intro h0 hl
          have hDF : D.Perm F := by have := HP.out; rwa [lefts_all hl] at this
          have HDF2 := Lib.hid hDF
          clear h0 HRG HP hl hDF
          go_wp2_with (first
            | (go_at_call 70; refine (sortEn_any (r2 + 1) _ _ _ ROW.out (by rw [List.length_map]; omega)).mono ?_; rintro e w5 ⟨rfl, hg5, L', hL1, hL2, hL3⟩; have HG5 := Lib.hid hg5; have HL1 := Lib.hid hL1; have HL2 := Lib.hid hL2; have HL3 := Lib.hid hL3; clear hg5 hL1 hL2 hL3))
          go_returns
          exact ⟨vo, L', dif, rfl, ownsRow_lower HL3.out (by omega), pok_of HQA.out HF.out HDF.out HDF2.out HSL.out HL1.out HL2.out HDO.out, Fr.upB B.out (Fr.of_grown HG5.out (S := fun i => vo.ownBlock = some i) (fun i e => e)) (fun i e => by have := hvo _ e; omega)⟩
        · -- AN ENTRY
          rintro s fs fr fd fv w1 cnt1 hok hlx hat hrg1 hlt hg1 hs1 hen
          have hmem := getG_mem hat
          have hyes := HF.out.yes _ _ hat
          obtain ⟨hfs, ⟨x0, hx0⟩, _⟩ := hyes
          have hfs2 : s = fs := hfs.symm
          subst hfs2
          have hsl : 0 ≤ s ∧ s < 4096 := HSL.out _ (HQA.out.mem_iff.1 (mem_atS.1 hx0).1)
          have hne : valsOf n Q s ≠ [] := by
            unfold valsOf
            intro h
            rw [List.map_eq_nil_iff] at h
            rw [h] at hx0
            cases hx0
          have f1 : Fr (S1 r2) wr w1 := Fr.of_grown hg1 (fun i e => by cases e; rfl)
          have MF1 := Lib.hid (MF.out.fr f1 (fun e => by have e : m3 = r2 := e; omega))
          have MV1 : Hid (VMap w1 m4 (rr + 1) n Q V) := MV.out.frS f1 (fun i e => by have e : i = r2 := e; omega) (fun s g hg e => by have e : g = r2 := e; have := HVB.out s g hg; omega)
          have B1 := Lib.hid (Fr.upB B.out f1 (fun i e => by have e : i = r2 := e; omega))
          have ROW1 : Hid (EnRow w1 (r2 + 1) vo (D.map toEn)) := World.ownsRow.kept ROW.out hg1 (.inr (by intro e; have := hvo _ e; omega))
          have HRG1 := Lib.hid hrg1
          have HP1 : Hid ((D ++ [(s, (s, (fr, fd), fv))]).Perm (lefts CIn (fun z => left z && !z.sameKey (CIn.lit s)) F)) :=
            (List.Perm.append_right _ HP.out).trans (lefts_step kIn HDF.out HOKF.out hmem hlx).symm
          have HCL : Hid (cnt1 < gk) := hlt
          have hvo1 : ∀ g, vo.ownBlock = some g → r2 + 1 ≤ g ∧ g < w1.heap.size := fun g hg => by have := hvo g hg; omega
          have hr2w : r2 < w1.heap.size := HRG1.out.lt
          have hen1 : (Instr.entry (.pointer (some ⟨r2, 0, none⟩))).run Tryz.prog w1 = .ok (.tuple #[.int .i64 s, .agg #[.int .i64 s, .int .i64 fr, .int .i64 fd, .string fv]]) w1 := hen
          clear hen f1 hrg1 hlt hg1 hs1 hat hlx hok hmem HP HRG MF MV B ROW hvo hfs hx0
          dsimp only [CIn]
          go_upto_region 16 with fail
          have hbx : Below w1.heap.size w1 (w1.alloc (.cells #[.int .i64 s, .int .i64 fr, .int .i64 fd, .string fv] 58)) := box_below w1 _
          have KX := Lib.hid (Blk.new w1 58 #[.int .i64 s, .int .i64 fr, .int .i64 fd, .string fv])
          have MF2 := Lib.hid (MF1.out.below hbx)
          have MV2 := Lib.hid (MV1.out.below hbx)
          have B2 := Lib.hid (bchain B1.out hbx)
          have ROW2 : Hid (EnRow _ (r2 + 1) vo (D.map toEn)) := World.ownsRow.alloc ROW1.out (.cells #[.int .i64 s, .int .i64 fr, .int .i64 fd, .string fv] 58)
          have HRG2 := Lib.hid (HRG1.out.alloc (.cells #[.int .i64 s, .int .i64 fr, .int .i64 fd, .string fv] 58))
          have hsz2 : (w1.alloc (.cells #[.int .i64 s, .int .i64 fr, .int .i64 fd, .string fv] 58)).heap.size = w1.heap.size + 1 := by simp
          have hvo2 : ∀ g, vo.ownBlock = some g → r2 + 1 ≤ g ∧ g < (w1.alloc (.cells #[.int .i64 s, .int .i64 fr, .int .i64 fd, .string fv] 58)).heap.size := fun g hg => by have := hvo1 g hg; omega
          generalize (w1.alloc (.cells #[.int .i64 s, .int .i64 fr, .int .i64 fd, .string fv] 58)) = W2 at *
          obtain ⟨bx, hbxe⟩ : ∃ bx, bx = w1.heap.size := ⟨_, rfl⟩
          rw [← hbxe] at KX ⊢
          have hr2W : r2 + 1 < W2.heap.size := by omega
          clear hbx MF1 MV1 B1 ROW1 HRG1 hen1 hvo1 hsz2 hbxe hr2w
          have x0 := KX.out.cell (i := 0) (v := .int .i64 s) rfl
          have x1 := KX.out.cell (i := 1) (v := .int .i64 fr) rfl
          have x2 := KX.out.cell (i := 2) (v := .int .i64 fd) rfl
          have x3 := KX.out.cell (i := 3) (v := .string fv) rfl
          have hml : (D.map toEn).length = D.length := List.length_map _
          go_upto_region 17 with (first
            | (at_builtin; refine wpList_append_own_at _ rfl _ _ 49 rfl (r2 + 1) 58 i1 (enV (0, (0, 0), ⟨#[]⟩)) 4 40 Tryz.underlying49 HJ.out HY0.out HY1.out HY2.out rfl (by decide) _ _ _ rfl (World.ownsRow.alloc ROW2.out _) ⟨W2.heap.size, 0, none⟩ 1 1 [.int .i64 s, .int .i64 fr, .int .i64 fd, .string fv] rfl rfl (cells_new _ _ _) (by simp [Value.oneCell']) (by unfold maxLen; omega) (by omega) (by simp; omega) ?_; intro v' w4 hown' hgrow _ hoa; have HOWN := Lib.hid hown'; have HGR := Lib.hid hgrow; clear hown' hgrow hoa))
          clear x0 x1 x2 x3
          have bl2 : Below W2.heap.size W2 (W2.alloc (.cells #[.int .i64 s, .int .i64 fr, .int .i64 fd, .string fv] 58)) := box_below W2 _
          have f4 : Fr (fun i => vo.ownBlock = some i) (W2.alloc (.cells #[.int .i64 s, .int .i64 fr, .int .i64 fd, .string fv] 58)) w4 := Fr.of_grown HGR.out (fun i e => e)
          have MF4 := Lib.hid ((MF2.out.below bl2).fr f4 (fun e => by have := hvo2 _ e; omega))
          have MV4 : Hid (VMap w4 m4 (rr + 1) n Q V) := (MV2.out.below bl2).frS f4 (fun i e => by have := hvo2 _ e; omega) (fun s g hg e => by have := hvo2 _ e; have := HVB.out s g hg; omega)
          have B4 := Lib.hid (Fr.upB (bchain B2.out bl2) f4 (fun i e => by have := hvo2 _ e; omega))
          have HRG4 := Lib.hid ((HRG2.out.alloc (.cells #[.int .i64 s, .int .i64 fr, .int .i64 fd, .string fv] 58)).kept HGR.out (fun e => by have := hvo2 _ e.symm; omega) (fun e => by have := hvo2 _ e.symm; omega))
          have ROW4 : Hid (EnRow w4 (r2 + 1) v' ((D ++ [(s, (s, (fr, fd), fv))]).map toEn)) := enRow_snoc HOWN.out hsl rfl
          have hsz4 := f4.size
          have hr24 : r2 + 1 < w4.heap.size := by have := bl2.size; omega
          clear bl2 f4 MF2 MV2 B2 HRG2 ROW2 HOWN HGR hsz4 KX hvo2 hr2W
          have hin : in64 s := by unfold in64; omega
          obtain ⟨m, hm⟩ : ∃ m, m = (Lib.compact ((valsOf n Q s).mergeSort (fun x y => decide (x ≤ y)))).length := ⟨_, rfl⟩
          have HM := Lib.hid hm
          have hmt : 1 < m ↔ Two n Q s := by rw [hm]; exact two_sorted n Q s
          have HMT := Lib.hid hmt
          have hvq : (valsOf n Q s).length ≤ 1000 := by
            unfold valsOf atS
            rw [List.length_map]
            exact Nat.le_trans (List.length_filter_le _ _) hql
          clear hm hmt
          go_cut [101] (fun c wx => c = .bool (decide (1 < m) && (decide (dif < 0) || decide (s < dif))) ∧ Below w4.heap.size w4 wx)
          case first =>
            obtain ⟨g, cp, hgv, hg1, hg2, hgc⟩ := strRow_cells (MV4.out.rows s) hne
            have HGC := Lib.hid hgc
            have hlk : (Instr.lookup 132 (.map (some m4)) (.int .i64 s) false).run Tryz.prog w4 = .ok (.slice (some ⟨g, 0, none⟩) (valsOf n Q s).length cp) w4 := by
              have h1 := lookG_run w4 kIn 132 134 Tryz.underlying132 (.slice none 0 0) (zeroSl w4) m4 V MV4.out.map s hin
              have h2 : ((getG s V).map (id : Value → Value)).getD (.slice none 0 0) = rowOf V s := by unfold rowOf; cases getG s V <;> rfl
              rw [h2, hgv] at h1
              exact h1
            clear hgc hgv
            have hmi : ∀ b, decide (1 < m) = b → decide ((m : Int) > 1) = b := fun b hb => by rw [← hb]; congr 1; exact propext (by omega)
            have key : ∀ t1 t2 : Bool, decide (1 < m) = t1 → decide (dif < 0) = t2 → True := fun _ _ _ _ => trivial
            cases ht1 : decide (1 < m)
            case' true => cases ht2 : decide (dif < 0)
            all_goals
              have hm1 := hmi _ ht1
              go_wp2_with (first
                | (go_at_call 69; refine (values_any _ _ _ _).mono ?_; rintro e w6 ⟨rfl, hw6⟩; have HW6 := Lib.hid hw6; clear hw6)
                | (go_at_call 68; refine (sorted_any _ g (valsOf n Q s).length cp (fun j => (valsOf n Q s).getD j []) _ (by omega) (by rw [HW6.out]; exact Blk.cell (Blk.new _ _ _) rfl) (by rw [HW6.out]; simp; omega) (fun j hj => by rw [HW6.out]; exact bcell (box_below _ _) (HGC.out j hj))).mono ?_; rw [upF_getD]; rintro e w7 ⟨vs, rfl, hr7, hb7⟩; have HR7 := Lib.hid hr7; have HB7 := Lib.hid hb7; clear hr7 hb7)
                | (go_at_call 67; refine (compact_any _ _ _ _ HR7.out (by rw [List.length_mergeSort]; omega)).mono ?_; rw [← HM.out]; rintro e w8 ⟨⟨A8, c8, rfl⟩, hg8⟩; have HG8 := Lib.hid hg8; clear hg8))
              go_meet
              refine ⟨by first | (rw [ht1, ht2]; rfl) | (rw [ht1]; rfl), ?_⟩
              have hw6 : Below w4.heap.size w4 w6 := by rw [HW6.out]; exact box_below _ _
              exact Fr.upB (bchain hw6 HB7.out) (Fr.of_grown HG8.out (S := fun i => vs.ownBlock = some i) (fun i e => e)) (fun i e => by have := (World.ownsRow.lt HR7.out i e).1; have := hw6.size; omega)
          case rest =>
          obtain ⟨rfl, hb9⟩ := hcut
          have MF9 := Lib.hid (MF4.out.below hb9)
          have MV9 := Lib.hid (MV4.out.below hb9)
          have B9 := Lib.hid (bchain B4.out hb9)
          have HRG9 := Lib.hid (HRG4.out.kept (grown_of hb9 none) (by simp) (by simp))
          have ROW9 : Hid (EnRow wc (r2 + 1) v' ((D ++ [(s, (s, (fr, fd), fv))]).map toEn)) := World.ownsRow.kept ROW4.out (grown_of hb9 none) (by by_cases h : v'.ownBlock = none; exact .inl h; exact .inr h)
          clear MF4 MV4 B4 HRG4 ROW4 hb9
          cases hcc : (decide (1 < m) && (decide (dif < 0) || decide (s < dif))) with
          | true =>
            have HDO9 : Hid (DOk n Q (D ++ [(s, (s, (fr, fd), fv))]) s) := by
              simp only [Bool.and_eq_true, Bool.or_eq_true, decide_eq_true_eq] at hcc
              exact HDO.out.less (HMT.out.1 hcc.1) hsl.1 hcc.2
            go_wp2_with fail
            go_roundg cnt1
            case measure => exact HCL.out
            case rel => exact ⟨_, _, _, _, rfl, rfl, HRG9.out, HP1.out, ROW9.out, HDO9.out, MF9.out, MV9.out, B9.out⟩
          | false =>
            have HDO9 : Hid (DOk n Q (D ++ [(s, (s, (fr, fd), fv))]) dif) := by
              simp only [Bool.and_eq_false_iff, Bool.or_eq_false_iff, decide_eq_false_iff_not] at hcc
              by_cases ht : Two n Q s
              · rcases hcc with hcc | ⟨h1, h2⟩
                · exact absurd (HMT.out.2 ht) hcc
                · exact HDO.out.more h1 h2
              · exact HDO.out.one ht
            go_wp2_with fail
            go_roundg cnt1
            case measure => exact HCL.out
            case rel => exact ⟨_, _, _, _, rfl, rfl, HRG9.out, HP1.out, ROW9.out, HDO9.out, MF9.out, MV9.out, B9.out⟩
    · -- AN ENTRY
      rintro sl r d v x w1 cnt1 hokx hlx hat hrg1 hlt hg1 hs1 hen
      have f1 : Fr (S1 rr) wr w1 := Fr.of_grown hg1 (fun i e => by cases e; rfl)
      have MF1 := Lib.hid (MF.out.fr f1 (fun e => by have e : m3 = rr := e; omega))
      have MV1 := Lib.hid (MV.out.fr f1 (fun i e => by have e : i = rr := e; omega))
      have B1 := Lib.hid (Fr.upB B.out f1 (fun i e => by have e : i = rr := e; omega))
      have HRG1 := Lib.hid hrg1
      have hmem := getG_mem hat
      have hx : x < 2 ^ n := HSET.out _ hmem
      have hsl : 0 ≤ sl ∧ sl < 4096 := HSL.out _ hmem
      have hP : (Q ++ [((sl, r, d), (v, x))]).Perm (lefts CPl (fun z => left z && !z.sameKey (CPl.lit (sl, r, d))) A) :=
        (List.Perm.append_right _ HP.out).trans (lefts_step kPl HD.out HOK.out hmem hlx).symm
      have HP1 := Lib.hid hP
      have HCL : Hid (cnt1 < gk) := hlt
      have hx1 := Lib.hid hx
      have hsz1 : rr < w1.heap.size := HRG1.out.lt
      clear f1 hrg1 hlt hg1 hs1 hat hlx hokx hmem hP HP HRG MF MV B hx
      have hen1 : (Instr.entry (.pointer (some ⟨rr, 0, none⟩))).run Tryz.prog w1 = .ok (.tuple #[.agg #[.int .i64 sl, .int .i64 r, .int .i64 d], .agg #[.string v, .int .u64 (x : Int)]]) w1 := hen
      clear hen
      dsimp only [CPl, plV, sdV]
      go_upto_region 6 with fail
      have hw : Below w1.heap.size w1 ((w1.alloc (.cells #[.int .i64 sl, .int .i64 r, .int .i64 d] 84)).alloc (.cells #[.string v, .int .u64 (x : Int)] 91)) := (box_below w1 _).alloc (by simp) _
      have KP := Lib.hid (Blk.alloc (Blk.new w1 84 #[.int .i64 sl, .int .i64 r, .int .i64 d]) (.cells #[.string v, .int .u64 (x : Int)] 91))
      have KQ : Hid (Blk ((w1.alloc (.cells #[.int .i64 sl, .int .i64 r, .int .i64 d] 84)).alloc (.cells #[.string v, .int .u64 (x : Int)] 91)) (w1.heap.size + 1) 91 #[.string v, .int .u64 (x : Int)]) := by
        have := Blk.new (w1.alloc (.cells #[.int .i64 sl, .int .i64 r, .int .i64 d] 84)) 91 #[.string v, .int .u64 (x : Int)]
        rwa [World.size_alloc] at this
      have HRG2 := Lib.hid ((HRG1.out.alloc (.cells #[.int .i64 sl, .int .i64 r, .int .i64 d] 84)).alloc (.cells #[.string v, .int .u64 (x : Int)] 91))
      have MF2 := Lib.hid (MF1.out.below hw)
      have MV2 := Lib.hid (MV1.out.below hw)
      have B2 := Lib.hid (bchain B1.out hw)
      have hsz3 : w1.heap.size + 2 ≤ ((w1.alloc (.cells #[.int .i64 sl, .int .i64 r, .int .i64 d] 84)).alloc (.cells #[.string v, .int .u64 (x : Int)] 91)).heap.size := by simp
      have hwm := B1.out.size
      generalize ((w1.alloc (.cells #[.int .i64 sl, .int .i64 r, .int .i64 d] 84)).alloc (.cells #[.string v, .int .u64 (x : Int)] 91)) = W3 at *
      obtain ⟨bp, hbp⟩ : ∃ bp, bp = w1.heap.size := ⟨_, rfl⟩
      obtain ⟨bq, hbq⟩ : ∃ bq, bq = w1.heap.size + 1 := ⟨_, rfl⟩
      rw [← hbq] at KQ ⊢
      rw [← hbp] at KP ⊢
      have hbo : rr < bp ∧ bp < bq := by omega
      have hrb : ∀ g, (rowOf V sl).ownBlock = some g → rr + 1 ≤ g ∧ g < bp := fun g hg => by have := World.ownsRow.lt (MV1.out.rows sl) g hg; omega
      clear hbp hbq hw hsz3 hwm MF1 MV1 B1 HRG1 hen1 hsz1
      have y0 := KP.out.cell (i := 0) (v := .int .i64 sl) rfl
      have y1 := KP.out.cell (i := 1) (v := .int .i64 r) rfl
      have y2 := KP.out.cell (i := 2) (v := .int .i64 d) rfl
      have z0 := KQ.out.cell (i := 0) (v := .string v) rfl
      have z1 := KQ.out.cell (i := 1) (v := .int .u64 (x : Int)) rfl
      cases hmj : maj x n with
      | false =>
        have HMJ : Hid (mj n ((sl, r, d), (v, x)) = false) := hmj
        go_wp2_with (first
          | (go_at_call 39; refine (is_any n x _ hn hx1.out).mono ?_; rw [hmj]; rintro e w5 ⟨rfl, b5⟩; have MF5 := Lib.hid (MF2.out.below b5); have MV5 := Lib.hid (MV2.out.below b5); have B5 := Lib.hid (bchain B2.out b5); have HRG5 := Lib.hid (HRG2.out.kept (grown_of b5 none) (by simp) (by simp)); clear b5))
        go_roundg cnt1
        case measure => exact HCL.out
        case rel => exact ⟨_, Q ++ [((sl, r, d), (v, x))], F, V, HRG5.out, HP1.out, HF.out.skip HMJ.out, MF5.out, MV5.out.skip HMJ.out, by simp; omega, by simp; omega, B5.out⟩
      | true =>
        have HMJ : Hid (mj n ((sl, r, d), (v, x)) = true) := hmj
        go_upto_region 8 with (first
          | (go_at_call 39; refine (is_any n x _ hn hx1.out).mono ?_; rw [hmj]; rintro e w5 ⟨rfl, b5⟩; have MF5 := Lib.hid (MF2.out.below b5); have MV5 := Lib.hid (MV2.out.below b5); have B5 := Lib.hid (bchain B2.out b5); have HRG5 := Lib.hid (HRG2.out.kept (grown_of b5 none) (by simp) (by simp)); have KP5 := Lib.hid (KP.out.fr (Fr.of_below b5 : Fr S0 _ _) (fun h => h)); have KQ5 := Lib.hid (KQ.out.fr (Fr.of_below b5 : Fr S0 _ _) (fun h => h)); have hws5 := b5.size; have hbl := KQ.out.lt; clear b5))
        clear hmj y0 y1 y2 z0 z1 MF2 MV2 B2 HRG2 KP KQ
        have y0 := KP5.out.cell (i := 0) (v := .int .i64 sl) rfl
        have hin : in64 sl := by unfold in64; omega
        obtain ⟨⟨fs, ⟨fr, fd⟩, fv⟩, hfg⟩ : ∃ e : Fv, (getG sl F).getD (0, (0, 0), ⟨#[]⟩) = e := ⟨_, rfl⟩
        obtain ⟨is, his⟩ : ∃ is, (getG sl F).isSome = is := ⟨_, rfl⟩
        have hfv : ((getG sl F).map enV).getD (enV (0, (0, 0), ⟨#[]⟩)) = .agg #[.int .i64 fs, .int .i64 fr, .int .i64 fd, .string fv] := by
          cases hg : getG sl F with
          | none => rw [hg] at hfg; cases hfg; rfl
          | some e => rw [hg] at hfg; cases hfg; rfl
        have HFV := Lib.hid hfv
        have HFG := Lib.hid hfg
        have HIS := Lib.hid his
        clear hfv hfg his
        go_upto_region 9 with (first
          | (at_lookup; refine wpList_lookG _ kIn rfl _ _ 131 rfl 58 Tryz.underlying131 (enV (0, (0, 0), ⟨#[]⟩)) (zeroEn _) m3 F rfl MF5.out sl rfl hin ?_; rw [HFV.out, HIS.out]))
        obtain ⟨W6, hW6⟩ : ∃ W6, W6 = w5.alloc (.cells #[.int .i64 fs, .int .i64 fr, .int .i64 fd, .string fv] 58) := ⟨_, rfl⟩
        rw [← hW6]
        have bw := box_below w5 (.cells #[.int .i64 fs, .int .i64 fr, .int .i64 fd, .string fv] 58)
        rw [← hW6] at bw
        obtain ⟨bs, hbs⟩ : ∃ bs, bs = w5.heap.size := ⟨_, rfl⟩
        rw [← hbs]
        have KS : Hid (Blk W6 bs 58 #[.int .i64 fs, .int .i64 fr, .int .i64 fd, .string fv]) := by rw [hW6, hbs]; exact Blk.new w5 58 #[.int .i64 fs, .int .i64 fr, .int .i64 fd, .string fv]
        have MF6 := Lib.hid (MF5.out.below bw)
        have MV6 := Lib.hid (MV5.out.below bw)
        have KP6 := Lib.hid (KP5.out.fr (Fr.of_below bw : Fr S0 _ _) (fun h => h))
        have KQ6 := Lib.hid (KQ5.out.fr (Fr.of_below bw : Fr S0 _ _) (fun h => h))
        have B6 := Lib.hid (bchain B5.out bw)
        have HRG6 := Lib.hid (HRG5.out.kept (grown_of bw none) (by simp) (by simp))
        have hbl5 := KQ5.out.lt
        have hbo2 : bq < bs := by omega
        have hbs6 : bs < W6.heap.size := KS.out.lt
        clear hbs hbl5 hW6 bw MF5 MV5 KP5 KQ5 B5 HRG5 y0
        have p1 := KP6.out.cell (i := 1) (v := .int .i64 r) rfl
        have p2 := KP6.out.cell (i := 2) (v := .int .i64 d) rfl
        have s1 := KS.out.cell (i := 1) (v := .int .i64 fr) rfl
        have s2 := KS.out.cell (i := 2) (v := .int .i64 fd) rfl
        go_cut [52] (fun c wx => c = .bool (!is || decide (ordB (r, d) (fr, fd) < 0)) ∧ Below W6.heap.size W6 wx)
        case first =>
          cases is with
          | false =>
            go_wp2_with fail
            go_meet
            exact ⟨rfl, Below.refl _ _⟩
          | true =>
            go_wp2_with (go_at_call 36; refine (order_any _ _ _ _ _).mono ?_; rintro e w7 ⟨rfl, b7⟩)
            go_meet
            exact ⟨by simp, b7⟩
        case rest =>
        obtain ⟨rfl, hb7⟩ := hcut
        obtain ⟨w7, rfl⟩ : ∃ w7 : World, w7 = wc := ⟨_, rfl⟩
        have hw6 := hb7.size
        have MF7 := Lib.hid (MF6.out.below hb7)
        have MV7 := Lib.hid (MV6.out.below hb7)
        have KP7 := Lib.hid (KP6.out.fr (Fr.of_below hb7 : Fr S0 _ _) (fun h => h))
        have KQ7 := Lib.hid (KQ6.out.fr (Fr.of_below hb7 : Fr S0 _ _) (fun h => h))
        have B7 := Lib.hid (bchain B6.out hb7)
        have HRG7 := Lib.hid (HRG6.out.kept (grown_of hb7 none) (by simp) (by simp))
        have hbs7 : bs < w7.heap.size := by omega
        clear MF6 MV6 KP6 KQ6 B6 HRG6 hb7 p1 p2 s1 s2 KS hbs6 hw6
        have p0 := KP7.out.cell (i := 0) (v := .int .i64 sl) rfl
        have p1 := KP7.out.cell (i := 1) (v := .int .i64 r) rfl
        have p2 := KP7.out.cell (i := 2) (v := .int .i64 d) rfl
        have z0 := KQ7.out.cell (i := 0) (v := .string v) rfl
        have hFok : ∃ F', (F' = if (!is || decide (ordB (r, d) (fr, fd) < 0)) = true then putG sl (sl, (r, d), v) F else F) ∧ FOk n (Q ++ [((sl, r, d), (v, x))]) F' ∧ F'.length ≤ Q.length + 1 := by
          refine ⟨_, rfl, ?_⟩
          have h1 := HFG.out
          have h2 := HIS.out
          have hl1 := putG_len sl (sl, (r, d), v) F
          cases hg : getG sl F with
          | none =>
            rw [hg] at h2
            simp only [Option.isSome_none] at h2
            subst h2
            rw [if_pos (show (!false || decide (ordB (r, d) (fr, fd) < 0)) = true by simp)]
            exact ⟨HF.out.take MF7.out.dst HMJ.out (.inl hg), by omega⟩
          | some e =>
            rw [hg] at h1 h2
            simp only [Option.isSome_some, Option.getD_some] at h1 h2
            subst h2
            subst h1
            by_cases hc : ordB (r, d) (fr, fd) < 0
            · rw [if_pos (by simp [hc])]
              exact ⟨HF.out.take MF7.out.dst HMJ.out (.inr ⟨_, hg, hc⟩), by omega⟩
            · rw [if_neg (by simp [hc])]
              exact ⟨HF.out.pass HMJ.out hg hc, by omega⟩
        obtain ⟨F', hF', hfok', hfl'⟩ := hFok
        have HF' := Lib.hid hF'
        have HFO' := Lib.hid hfok'
        clear hF' hfok'
        go_upto_if 52 with fail
        go_cut [] (fun wx => MapG CIn enV wx m3 F' ∧ w7.grownBy wx (some m3))
        case first =>
          cases hcc : (!is || decide (ordB (r, d) (fr, fd) < 0)) with
          | false =>
            have HFE : Hid (F' = F) := by rw [Hid, HF'.out, hcc]; rfl
            go_wp2_with fail
            go_meet
            exact ⟨by rw [HFE.out]; exact MF7.out, ⟨rfl, rfl, rfl, Nat.le_refl _, fun _ _ _ => rfl⟩⟩
          | true =>
            have HFE : Hid (F' = putG sl (sl, (r, d), v) F) := by rw [Hid, HF'.out, hcc]; rfl
            have bldE : ∀ w : World, (Instr.build 58 #[(0, .int .i64 sl), (1, .agg #[.int .i64 r, .int .i64 d]), (2, .string v)]).run Tryz.prog w = .ok (enV (sl, (r, d), v)) w := fun w => run_build w 58 _ _ (by kernel_rfl)
            go_wp2_with (first
              | (at_mapUpdate; refine wpList_updG _ kIn rfl _ _ _ 131 rfl 58 Tryz.underlying131 m3 F rfl MF7.out (by omega) sl (sl, (r, d), v) rfl rfl hin ?_; intro w8 hm8 hg8; have MF8 := Lib.hid hm8; have HG8 := Lib.hid hg8; clear hm8 hg8))
            go_meet
            exact ⟨by rw [HFE.out]; exact MF8.out, HG8.out⟩
        case rest =>
        obtain ⟨hm8, hg8⟩ := hcut
        obtain ⟨w8, rfl⟩ : ∃ w8 : World, w8 = wc := ⟨_, rfl⟩
        have f8 : Fr (S1 m3) w7 w8 := Fr.of_grown hg8 (fun i e => by cases e; rfl)
        obtain ⟨es3, c3, hm3⟩ := MF7.out.block
        have hbp3 : bp ≠ m3 := by omega
        have hbq3 : bq ≠ m3 := by omega
        have MF8 := Lib.hid hm8
        have MV8 := Lib.hid (MV7.out.fr f8 (fun i e => by have e : i = m3 := e; omega))
        have KP8 := Lib.hid (KP7.out.fr f8 (fun e => hbp3 e))
        have KQ8 := Lib.hid (KQ7.out.fr f8 (fun e => hbq3 e))
        have B8 := Lib.hid (Fr.upB B7.out f8 (fun i e => by have e : i = m3 := e; omega))
        have HRG8 := Lib.hid (HRG7.out.kept hg8 (fun e => by have e : b = m3 := Option.some.inj e; omega) (fun e => by have e : rr = m3 := Option.some.inj e; omega))
        have hws8 := hg8.size
        have hbs8 : bs < w8.heap.size := by omega
        clear MF7 MV7 KP7 KQ7 B7 HRG7 hm8 hg8 f8 hm3 p0 p1 p2 z0 hws8 hbs7
        have p0 := KP8.out.cell (i := 0) (v := .int .i64 sl) rfl
        have z0 := KQ8.out.cell (i := 0) (v := .string v) rfl
        have hlk : ∀ W, MapG CIn (id : Value → Value) W m4 V → (Instr.lookup 132 (.map (some m4)) (.int .i64 sl) false).run Tryz.prog W = .ok (rowOf V sl) W := fun W hW => by
          have h1 := lookG_run W kIn 132 134 Tryz.underlying132 (.slice none 0 0) (zeroSl W) m4 V hW sl hin
          have h2 : ((getG sl V).map (id : Value → Value)).getD (.slice none 0 0) = rowOf V sl := by unfold rowOf; cases getG sl V <;> rfl
          rw [h2] at h1
          exact h1
        have hl8 := hlk _ MV8.out.map.drew
        have hl9 := hlk _ (MV8.out.map.alloc (.cells #[.string v] 9)).drew
        clear hlk
        have hvq : (valsOf n Q sl).length ≤ 1000 := by
          unfold valsOf atS
          rw [List.length_map]
          exact Nat.le_trans (List.length_filter_le _ _) hql
        have hrw : rr + 1 ≤ w8.heap.size := by omega
        have hb9 : Below w8.heap.size w8 (w8.alloc (.cells #[.string v] 9)).drew := ((Below.refl _ _).alloc (Nat.le_refl _) _).drew
        have MV9 := Lib.hid (MV8.out.below hb9)
        have HRG9 := Lib.hid (HRG8.out.kept (grown_of hb9 none) (by simp) (by simp))
        have B9 := Lib.hid (bchain B8.out hb9)
        have MF9 := Lib.hid (MF8.out.below hb9)
        have p9 := bcell hb9 p0
        have z9 := bcell hb9 z0
        have hsz9 : (w8.alloc (.cells #[.string v] 9)).drew.heap.size = w8.heap.size + 1 := by simp
        have HSZ9 := Lib.hid hsz9
        clear hb9 hsz9
        go_upto_region 11 with fail
        refine wp_region_held_drew (S := (fun W => W.cell? ⟨bp, 0, none⟩ = some (.int .i64 sl) ∧ W.cell? ⟨bq, 0, none⟩ = some (.string v))) (by kernel_rfl) ?_ (fun hHeld => ?_)
        · exact ⟨by assumption, by assumption⟩
        try dsimp only at hHeld
        refine held_yes (i := 0) (some 63) (v := ?_) rfl rfl (by kernel_rfl) (by kernel_rfl) (by kernel_rfl) (fun _ _ _ h => h) (by rfl) ?_ hHeld ?_
        rotate_left
        · (intro w hSw; (try dsimp only at hSw); go_simp; all_goals with_reducible rfl)
        try simp only [Act.put, List.setIfInBounds_toArray, List.set_cons_zero, List.set_cons_succ]
        refine held_yes (i := 1) (some 64) (v := ?_) rfl rfl (by kernel_rfl) (by kernel_rfl) (by kernel_rfl) (fun _ _ _ h => h) (by rfl) ?_ hHeld ?_
        rotate_left
        · (intro w hSw; (try dsimp only at hSw); go_simp; all_goals with_reducible rfl)
        try simp only [Act.put, List.setIfInBounds_toArray, List.set_cons_zero, List.set_cons_succ]
        refine held_yes (i := 2) (some 65) (v := ?_) rfl rfl (by kernel_rfl) (by kernel_rfl) (by kernel_rfl) (fun _ _ _ h => h) (by rfl) ?_ hHeld ?_
        rotate_left
        · (intro w hSw; (try dsimp only at hSw); go_simp; all_goals with_reducible rfl)
        try simp only [Act.put, List.setIfInBounds_toArray, List.set_cons_zero, List.set_cons_succ]
        refine held_yes (i := 3) (some 66) (v := ?_) rfl rfl (by kernel_rfl) (by kernel_rfl) (by kernel_rfl) (fun _ _ _ h => h) (by rfl) ?_ hHeld ?_
        rotate_left
        · (intro w hSw; (try dsimp only at hSw); go_simp; all_goals with_reducible rfl)
        try simp only [Act.put, List.setIfInBounds_toArray, List.set_cons_zero, List.set_cons_succ]
        refine held_yes (i := 4) (some 67) (v := ?_) rfl rfl (by kernel_rfl) (by kernel_rfl) (by kernel_rfl) (fun _ _ _ h => h) (by rfl) ?_ hHeld ?_
        rotate_left
        · (intro w hSw; (try dsimp only at hSw); go_simp; all_goals with_reducible rfl)
        try simp only [Act.put, List.setIfInBounds_toArray, List.set_cons_zero, List.set_cons_succ]
        refine held_yes (i := 5) (some 68) (v := ?_) rfl rfl (by kernel_rfl) (by kernel_rfl) (by kernel_rfl) (fun _ _ _ h => h) (by rfl) ?_ hHeld ?_
        rotate_left
        · (intro w hSw; (try dsimp only at hSw); go_simp; all_goals with_reducible rfl)
        try simp only [Act.put, List.setIfInBounds_toArray, List.set_cons_zero, List.set_cons_succ]
        refine held_yes (i := 7) (some 70) (v := ?_) rfl rfl (by kernel_rfl) (by kernel_rfl) (by kernel_rfl) (fun _ _ _ h => h) (by rfl) ?_ hHeld ?_
        rotate_left
        · (intro w hSw; (try dsimp only at hSw); go_simp; all_goals with_reducible rfl)
        try simp only [Act.put, List.setIfInBounds_toArray, List.set_cons_zero, List.set_cons_succ]
        refine held_yes (i := 8) (some 71) (v := ?_) rfl rfl (by kernel_rfl) (by kernel_rfl) (by kernel_rfl) (fun _ _ _ h => h) (by rfl) ?_ hHeld ?_
        rotate_left
        · (intro w hSw; (try dsimp only at hSw); go_simp; all_goals with_reducible rfl)
        try simp only [Act.put, List.setIfInBounds_toArray, List.set_cons_zero, List.set_cons_succ]
        refine wpAnyH_ready (rs := [6, 9]) (by kernel_rfl) (by simp) ?_
        refine (AllReadyH.cons rfl (fun K' hK' => ?_) (AllReadyH.cons rfl (fun K' hK' => ?_) AllReadyH.nil))
        · go_simp
          refine hK'.out _ _ ?_ (fun hHeld => ?_)
          · first | exact ⟨by assumption, by assumption⟩ | go_keep
          clear hK' K'
          try dsimp only at hHeld
          try simp only [Act.put, List.setIfInBounds_toArray, List.set_cons_zero, List.set_cons_succ]
          refine wpAnyH_ready (rs := [9]) (by kernel_rfl) (by simp) ?_
          refine (AllReadyH.cons rfl (fun K' hK' => ?_) AllReadyH.nil)
          go_simp
          refine hK'.out _ _ ?_ (fun hHeld => ?_)
          · first | exact ⟨by assumption, by assumption⟩ | go_keep
          clear hK' K'
          try dsimp only at hHeld
          try simp only [Act.put, List.setIfInBounds_toArray, List.set_cons_zero, List.set_cons_succ]
          refine wpAnyH_ready (rs := [10]) (by kernel_rfl) (by simp) ?_
          refine (AllReadyH.cons rfl (fun K' hK' => ?_) AllReadyH.nil)
          (refine step_append_lies _ rfl _ _ 134 rfl (rr + 1) 9 i0 (.string ⟨#[]⟩) 1 16 Tryz.underlying134 HI.out HZ0.out HZ1.out HZ2.out rfl (by decide) (rowOf V sl) _ _ rfl (MV9.out.rows sl) ⟨w8.heap.size, 0, none⟩ 1 1 [.string v] rfl rfl (cell_one_new _ _ _) (by simp [Value.oneCell']) (by decide) (by unfold maxLen; omega) (by omega) (by rw [HSZ9.out]; omega) _ rfl ?_; intro g cap wa hra hga hoa hla; change K' (Act.put _ (some 73) _) _; have fa : Fr (fun i => (rowOf V sl).ownBlock = some i) _ wa := Fr.of_grown hga (fun i e => e); have p0a := fa.cell (p := ⟨bp, 0, none⟩) (fun e => by have := hrb _ e; have e2 : (⟨bp, 0, none⟩ : Addr).block = bp := rfl; omega) p9; have z0a := fa.cell (p := ⟨bq, 0, none⟩) (fun e => by have := hrb _ e; have e2 : (⟨bq, 0, none⟩ : Addr).block = bq := rfl; omega) z9; have MVa := MV9.out.map.fr fa (fun e => by have := hrb _ e; omega); obtain ⟨wb, hrb2, hmb, hgb⟩ := updG (w := wa) kIn Tryz.underlying132 MVa (by omega) sl hin (Value.slice (some ⟨g, 0, none⟩) ((valsOf n Q sl).length + 1) cap); have p0b := grown_cell (p := ⟨bp, 0, none⟩) hgb (by show bp ≠ m4; omega) p0a; have z0b := grown_cell (p := ⟨bq, 0, none⟩) hgb (by show bq ≠ m4; omega) z0a; have HRA := Lib.hid hra; have HGA := Lib.hid hga; have HOA := Lib.hid hoa; have HMB := Lib.hid hmb; have HGB := Lib.hid hgb; have FA := Lib.hid fa; clear hra hga hoa hmb hgb MVa fa)
          refine hK'.out _ _ ?_ (fun hHeld => ?_)
          · first | exact ⟨by assumption, by assumption⟩ | go_keep
          clear hK' K'
          try dsimp only at hHeld
          try simp only [Act.put, List.setIfInBounds_toArray, List.set_cons_zero, List.set_cons_succ]
          refine wpAnyH_ready (rs := [11]) (by kernel_rfl) (by simp) ?_
          refine (AllReadyH.cons rfl (fun K' hK' => ?_) AllReadyH.nil)
          (refine step_upd rfl _ _ _ _ rfl rfl rfl rfl hrb2 ?_; change K' (Act.put _ none _) _)
          refine hK'.out _ _ ?_ (fun hHeld => ?_)
          · first | exact ⟨by assumption, by assumption⟩ | go_keep
          clear hK' K'
          try dsimp only at hHeld
          try simp only [Act.put, List.setIfInBounds_toArray, List.set_cons_zero, List.set_cons_succ]
          refine wpAnyH_done (by kernel_rfl) ?_ _
          (go_wp2_with fail; go_roundg cnt1; (case measure => exact HCL.out); (case rel => exact picked_leaf HRG9.out HGA.out HGB.out HP1.out HFO'.out MF9.out MV9.out HMJ.out HRA.out HOA.out HMB.out B9.out hord hrb hfl' (by omega)))
        · go_simp
          refine hK'.out _ _ ?_ (fun hHeld => ?_)
          · first | exact ⟨by assumption, by assumption⟩ | go_keep
          clear hK' K'
          try dsimp only at hHeld
          try simp only [Act.put, List.setIfInBounds_toArray, List.set_cons_zero, List.set_cons_succ]
          refine wpAnyH_ready (rs := [6]) (by kernel_rfl) (by simp) ?_
          refine (AllReadyH.cons rfl (fun K' hK' => ?_) AllReadyH.nil)
          go_simp
          refine hK'.out _ _ ?_ (fun hHeld => ?_)
          · first | exact ⟨by assumption, by assumption⟩ | go_keep
          clear hK' K'
          try dsimp only at hHeld
          try simp only [Act.put, List.setIfInBounds_toArray, List.set_cons_zero, List.set_cons_succ]
          refine wpAnyH_ready (rs := [10]) (by kernel_rfl) (by simp) ?_
          refine (AllReadyH.cons rfl (fun K' hK' => ?_) AllReadyH.nil)
          (refine step_append_lies _ rfl _ _ 134 rfl (rr + 1) 9 i0 (.string ⟨#[]⟩) 1 16 Tryz.underlying134 HI.out HZ0.out HZ1.out HZ2.out rfl (by decide) (rowOf V sl) _ _ rfl (MV9.out.rows sl) ⟨w8.heap.size, 0, none⟩ 1 1 [.string v] rfl rfl (cell_one_new _ _ _) (by simp [Value.oneCell']) (by decide) (by unfold maxLen; omega) (by omega) (by rw [HSZ9.out]; omega) _ rfl ?_; intro g cap wa hra hga hoa hla; change K' (Act.put _ (some 73) _) _; have fa : Fr (fun i => (rowOf V sl).ownBlock = some i) _ wa := Fr.of_grown hga (fun i e => e); have p0a := fa.cell (p := ⟨bp, 0, none⟩) (fun e => by have := hrb _ e; have e2 : (⟨bp, 0, none⟩ : Addr).block = bp := rfl; omega) p9; have z0a := fa.cell (p := ⟨bq, 0, none⟩) (fun e => by have := hrb _ e; have e2 : (⟨bq, 0, none⟩ : Addr).block = bq := rfl; omega) z9; have MVa := MV9.out.map.fr fa (fun e => by have := hrb _ e; omega); obtain ⟨wb, hrb2, hmb, hgb⟩ := updG (w := wa) kIn Tryz.underlying132 MVa (by omega) sl hin (Value.slice (some ⟨g, 0, none⟩) ((valsOf n Q sl).length + 1) cap); have p0b := grown_cell (p := ⟨bp, 0, none⟩) hgb (by show bp ≠ m4; omega) p0a; have z0b := grown_cell (p := ⟨bq, 0, none⟩) hgb (by show bq ≠ m4; omega) z0a; have HRA := Lib.hid hra; have HGA := Lib.hid hga; have HOA := Lib.hid hoa; have HMB := Lib.hid hmb; have HGB := Lib.hid hgb; have FA := Lib.hid fa; clear hra hga hoa hmb hgb MVa fa)
          refine hK'.out _ _ ?_ (fun hHeld => ?_)
          · first | exact ⟨by assumption, by assumption⟩ | go_keep
          clear hK' K'
          try dsimp only at hHeld
          try simp only [Act.put, List.setIfInBounds_toArray, List.set_cons_zero, List.set_cons_succ]
          refine wpAnyH_ready (rs := [11]) (by kernel_rfl) (by simp) ?_
          refine (AllReadyH.cons rfl (fun K' hK' => ?_) AllReadyH.nil)
          (refine step_upd rfl _ _ _ _ rfl rfl rfl rfl hrb2 ?_; change K' (Act.put _ none _) _)
          refine hK'.out _ _ ?_ (fun hHeld => ?_)
          · first | exact ⟨by assumption, by assumption⟩ | go_keep
          clear hK' K'
          try dsimp only at hHeld
          try simp only [Act.put, List.setIfInBounds_toArray, List.set_cons_zero, List.set_cons_succ]
          refine wpAnyH_done (by kernel_rfl) ?_ _
          (go_wp2_with fail; go_roundg cnt1; (case measure => exact HCL.out); (case rel => exact picked_leaf HRG9.out HGA.out HGB.out HP1.out HFO'.out MF9.out MV9.out HMJ.out HRA.out HOA.out HMB.out B9.out hord hrb hfl' (by omega)))
end Go.Proofs.YthkdmpalhdifbaaGreatDoor
