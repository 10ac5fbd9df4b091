/- How long a snapshot is: no longer than the records that led to it. -/
import Derived.Test.YtlfikhblmbidmaaGreatDoorCmpQ
set_option linter.unusedVariables false
set_option linter.unusedSimpArgs false
namespace Go.Proofs.YtlfikhblmbidmaaGreatDoor
open Go.RowKit Go.Maps

section
variable {β : Type} (f : Int × β → List UInt8)
def fl (L : List (Int × β)) : Nat := (L.flatMap f).length
variable {f}
theorem fl_cons (x : Int × β) (L : List (Int × β)) : fl f (x :: L) = (f x).length + fl f L := by simp [fl]
theorem fl_insS (x : Int × β) : ∀ L : List (Int × β), fl f (insS x L) = (f x).length + fl f L
  | [] => by simp [insS, fl]
  | y :: r => by
    simp only [insS]
    split
    · rw [fl_cons]
    · rw [fl_cons, fl_insS x r, fl_cons]; omega
theorem fl_filter (P : Int × β → Bool) : ∀ L : List (Int × β), fl f (L.filter P) ≤ fl f L
  | [] => by simp [fl]
  | y :: r => by
    have ih := fl_filter P r
    rw [List.filter_cons]
    split
    · rw [fl_cons, fl_cons]; omega
    · rw [fl_cons]; omega
theorem fl_put (k : Int) (v : β) (L : List (Int × β)) : fl f (put k v L) ≤ (f (k, v)).length + fl f L := by
  unfold put
  rw [fl_insS]
  have := fl_filter (f := f) (fun p => p.1 != k) L
  show _ + fl f (L.filter fun p => p.1 != k) ≤ _
  omega
end
def body (t : NSt) : Nat := fl entB t.a.L + fl valuB t.l.L
/-- What is kept: the number of nodes; that the values are short. -/
structure Kept (s t : NSt) (d : Nat) : Prop where
  n : t.a.n = s.a.n
  len : body t ≤ body s + d
  size : (∀ x ∈ s.a.L, x.2.2.2.size ≤ 65536) → ∀ x ∈ t.a.L, x.2.2.2.size ≤ 65536
theorem Kept.refl (s : NSt) : Kept s s 0 := ⟨rfl, Nat.le_refl _, fun h => h⟩
theorem Kept.trans {s t u : NSt} {d e : Nat} (h : Kept s t d) (k : Kept t u e) : Kept s u (d + e) := ⟨k.n.trans h.n, by have := h.len; have := k.len; omega, fun x => k.size (h.size x)⟩
theorem Kept.mono {s t : NSt} {d e : Nat} (h : Kept s t d) (k : d ≤ e) : Kept s t e := ⟨h.n, by have := h.len; omega, h.size⟩
theorem ent_len (a b c : Nat) (v : ByteArray) : (entB ((a : Int), (b : Int), (c : Int), v)).length = (uintB a).length + (uintB b).length + (uintB c).length + (textB v.data.toList).length := by
  simp [entB, uintsB]; omega
theorem valu_len (a : Nat) (v : ByteArray) : (valuB ((a : Int), v)).length = (uintB a).length + (textB v.data.toList).length := by
  simp [valuB, uintsB]
theorem text_sB (l : List UInt8) : (sB l).data.toList = l := by simp [sB]
theorem Kept.doS {s : NSt} {x : Rec} (hk : x.k ≠ 1 → x.k ≠ 2 → x.k = 3) : Kept s (Go.Proofs.YtlfikhblmbidmaaGreatDoor.doS s x) x.bytes.length := by
  unfold Go.Proofs.YtlfikhblmbidmaaGreatDoor.doS
  by_cases h1 : x.k = 1
  · rw [if_pos h1]
    unfold prS
    split
    · exact ⟨rfl, by show fl entB s.a.L + fl valuB s.l.L ≤ _; unfold body; omega, fun h => h⟩
    · exact (Kept.refl s).mono (Nat.zero_le _)
  · rw [if_neg h1]
    by_cases h2 : x.k = 2
    · rw [if_pos h2]
      unfold acS
      split
      · rename_i he
        have hsz := (accE_zero.1 he).2.2.2.1
        refine ⟨rfl, ?_, fun h y hy => ?_⟩
        · have h3 := fl_put (f := entB) (x.sl : Int) ((x.ro : Int), (x.no : Int), sB x.v) s.a.L
          rw [ent_len, text_sB] at h3
          have h4 : x.bytes.length = (uintB x.k).length + ((uintB x.ro).length + (uintB x.no).length) + ((uintB x.sl).length + (textB x.v).length) := by
            unfold Rec.bytes
            rw [if_neg (by omega), if_neg h1]
            simp; omega
          show fl entB (put (x.sl : Int) ((x.ro : Int), (x.no : Int), sB x.v) s.a.L) + fl valuB s.l.L ≤ body s + _
          unfold body
          omega
        · rcases mem_put.1 hy with rfl | ⟨hy, _⟩
          · exact hsz
          · exact h y hy
      · exact (Kept.refl s).mono (Nat.zero_le _)
    · rw [if_neg h2]
      by_cases he : lputE s.l (x.sl : Int) (sB x.v) = 0
      · obtain ⟨e1, e2⟩ := lputS_zero he
        refine ⟨rfl, ?_, fun h => h⟩
        have h3 := fl_put (f := valuB) (x.sl : Int) (sB x.v) s.l.L
        rw [valu_len, text_sB] at h3
        have h4 : x.bytes.length = (uintB x.k).length + ((uintB x.sl).length + (textB x.v).length) := by
          unfold Rec.bytes
          rw [if_pos (hk h1 h2), if_neg h1]
          simp
        show fl entB s.a.L + fl valuB (lputS s.l (x.sl : Int) (sB x.v)).L ≤ body s + _
        rw [e2]
        unfold body
        omega
      · rw [show lputS s.l (x.sl : Int) (sB x.v) = s.l by unfold lputS; rw [if_neg he]]
        exact (Kept.refl s).mono (Nat.zero_le _)
theorem Kept.recR : ∀ (rs : List (List UInt8)) (s t : NSt), Go.Proofs.YtlfikhblmbidmaaGreatDoor.recR s rs = some t → Kept s t (framesB rs).length
  | [], s, t, h => by cases h; exact (Kept.refl _).mono (Nat.zero_le _)
  | b :: bs, s, t, h => by
    cases hp : parseP b with
    | none => rw [recR_none hp] at h; cases h
    | some x =>
      by_cases hd : doE s x = 0
      · rw [recR_step hp hd] at h
        obtain ⟨hok, _, hb, _⟩ := parseP_some hp
        have ih := Kept.recR bs _ t h
        have h1 := hok.k1
        have h2 := hok.k3
        refine ((Kept.doS (s := s) (x := x) (by omega)).trans ih).mono ?_
        have e : (framesB (b :: bs)).length = (frameB b).length + (framesB bs).length := by simp [framesB]
        rw [e, frameB_length, hb]
        omega
      · rw [recR_bad hp hd] at h; cases h
theorem Hist.kept {t0 t : NSt} {b : List UInt8} (h : Hist t0 t b) : Kept t0 t b.length := by
  obtain ⟨rs, rfl, hr, _⟩ := h
  exact Kept.recR rs t0 t hr
theorem Kept.fo (s : NSt) (u : Int) : Kept s ⟨foS s.a u, s.l⟩ 0 := by
  unfold foS
  split
  · refine ⟨rfl, ?_, fun h x hx => h x (List.mem_filter.1 hx).1⟩
    have := fl_filter (f := entB) (fun p => !decide (p.1 < u)) s.a.L
    show fl entB (forL u s.a.L) + fl valuB s.l.L ≤ _
    unfold body forL
    omega
  · exact Kept.refl s
theorem Kept.lfor (s : NSt) (u : Int) : Kept s ⟨s.a, lforS s.l u⟩ 0 := by
  unfold lforS
  split
  · refine ⟨rfl, ?_, fun h => h⟩
    have := fl_filter (f := valuB) (fun p => !decide (p.1 < u)) s.l.L
    show fl entB s.a.L + fl valuB (s.l.L.filter fun p => !decide (p.1 < u)) ≤ _
    unfold body
    omega
  · exact Kept.refl s
theorem snap_len {t : NSt} (ha : AGood t.a) (hl : LGood t.l) : (snapB t).length ≤ body t + 60 := by
  have hr := ha.range
  have hb := ha.base
  have hlen := ha.len
  have hll := hl.len
  have hb0 := hl.b0
  have hb1 : t.l.base ≤ 4096 := by have := hl.bu; have := hl.ut; have := hl.t1; omega
  have u1 := uintB_len10 (show t.a.r.toNat < 18446744073709551616 by omega)
  have u2 := uintB_len10 (show t.a.d.toNat < 18446744073709551616 by omega)
  have u3 := uintB_len10 (show t.a.base.toNat < 18446744073709551616 by omega)
  have u4 := uintB_len10 (show t.a.L.length < 18446744073709551616 by omega)
  have u5 := uintB_len10 (show t.l.base.toNat < 18446744073709551616 by omega)
  have u6 := uintB_len10 (show t.l.L.length < 18446744073709551616 by omega)
  have e : (snapB t).length = ((uintB t.a.r.toNat).length + (uintB t.a.d.toNat).length + (uintB t.a.base.toNat).length + (uintB t.a.L.length).length) + fl entB t.a.L + ((uintB t.l.base.toNat).length + (uintB t.l.L.length).length) + fl valuB t.l.L := by
    unfold snapB headA headL fl
    simp only [uintsB, List.length_append, List.flatMap_cons, List.flatMap_nil, List.length_nil]
    omega
  rw [e]
  unfold body
  omega
end Go.Proofs.YtlfikhblmbidmaaGreatDoor
