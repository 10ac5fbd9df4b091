/- Package chosen: votes; isSlot, alone; the keys of the two maps. -/
import Derived.Test.YthkdmpalhdifbaaGreatDoorQuorum
import Derived.Test.YthkdmpalhdifbaaGreatDoorMapG
import Derived.WideKeyPair
import Derived.DeepKeys4
set_option linter.unusedVariables false
set_option linter.unusedSimpArgs false
namespace Go.Proofs.YthkdmpalhdifbaaGreatDoor
open Go.RowKit Go.Maps

def in64 (x : Int) : Prop := -9223372036854775808 ≤ x ∧ x ≤ 9223372036854775807
theorem wf64 {x : Int} (h : in64 x) : (Lit.int .i64 x).wf = true := by
  unfold in64 at h
  simp [Lit.wf, IntKind.min, IntKind.max, IntKind.signed, IntKind.bits]
  omega
/-- A vote: the node, the ballot's round and node, the slot, the value. -/
structure Vt where
  nd : Int
  r : Int
  d : Int
  sl : Int
  v : ByteArray
abbrev vtV (x : Vt) : Value := .agg #[.int .i64 x.nd, .int .i64 x.r, .int .i64 x.d, .int .i64 x.sl, .string x.v]

theorem isSlot_any (k : Int) (w : World) : Calls Tryz.prog 35 #[.int .i64 k] w fun e w' => e = .returned (.bool (decide (k ≥ 0) && decide (k < 4096))) ∧ w = w' := by
  cases h1 : decide (k ≥ 0) with
  | false =>
    go_enter Tryz.func35, Tryz.ntmps35
    go_wp2_with fail
    go_returns
    exact ⟨rfl, rfl⟩
  | true =>
    cases h2 : decide (k < 4096) with
    | false =>
      go_enter Tryz.func35, Tryz.ntmps35
      go_wp2_with fail
      go_returns
      exact ⟨rfl, rfl⟩
    | true =>
      go_enter Tryz.func35, Tryz.ntmps35
      go_wp2_with fail
      go_returns
      exact ⟨rfl, rfl⟩

def aloneB (x : Vt) (n : Int) : Bool := decide (x.nd ≥ 0) && (decide (x.nd < n) && (!(x.r == 0 && x.d == 0) && (decide (chkE n x.r x.d = 0) && ((decide (x.sl ≥ 0) && decide (x.sl < 4096)) && decide ((x.v.size : Int) ≤ 65536)))))
set_option maxRecDepth 100000 in
set_option maxHeartbeats 2000000 in
theorem alone_any (nd r d sl : Int) (v : ByteArray) (n : Int) (w : World) :
    Calls Tryz.prog 56 #[.agg #[.int .i64 nd, .int .i64 r, .int .i64 d, .int .i64 sl, .string v], .int .i64 n] w fun e w' => e = .returned (.bool (aloneB ⟨nd, r, d, sl, v⟩ n)) ∧ Below w.heap.size w w' := by
  have hEq := fun (a b c d : Int) (w : World) => eqBal a b c d w
  have hGq := eqGBal
  have hB0 := fun w => bldBal0 w
  have hb := box_below w (.cells #[.int .i64 nd, .int .i64 r, .int .i64 d, .int .i64 sl, .string v] 35)
  unfold aloneB
  simp only
  cases h1 : decide (nd ≥ 0)
  case false =>
    go_enter Tryz.func56, Tryz.ntmps56
    go_wp2_with fail
    go_returns
    exact ⟨rfl, hb⟩
  cases h2 : decide (nd < n)
  case false =>
    go_enter Tryz.func56, Tryz.ntmps56
    go_wp2_with fail
    go_returns
    exact ⟨rfl, hb⟩
  cases h3 : (r == 0 && d == 0)
  case true =>
    have hEz : ∀ w : World, (Op.equalIn 10000 24 (.agg #[.int .i64 r, .int .i64 d]) (.agg #[.int .i64 0, .int .i64 0])).run Tryz.prog w = .ok true w := fun w => by rw [hEq, h3]
    clear hEq
    go_enter Tryz.func56, Tryz.ntmps56
    go_wp2_with fail
    go_returns
    exact ⟨rfl, hb⟩
  have hEz : ∀ w : World, (Op.equalIn 10000 24 (.agg #[.int .i64 r, .int .i64 d]) (.agg #[.int .i64 0, .int .i64 0])).run Tryz.prog w = .ok false w := fun w => by rw [hEq, h3]
  clear hEq
  have kb := Blk.new w 35 #[.int .i64 nd, .int .i64 r, .int .i64 d, .int .i64 sl, .string v]
  have KB := Lib.hid kb
  have HB := Lib.hid hb
  clear kb hb
  by_cases h4 : chkE n r d = 0
  case neg =>
    have h4' : (chkE n r d == 0) = false := by simpa using h4
    rw [decide_eq_false h4]
    clear h4
    go_enter Tryz.func56, Tryz.ntmps56
    go_wp2_with (go_at_call 34; refine (check_any _ _ _ _).mono ?_; rintro e w2 ⟨rfl, b2⟩; have B2 := Lib.hid (bchain HB.out b2); clear b2)
    go_returns
    exact ⟨rfl, B2.out⟩
  rw [decide_eq_true h4]
  have H4 := Lib.hid h4
  clear h4
  cases h5 : (decide (sl ≥ 0) && decide (sl < 4096))
  case false =>
    go_enter Tryz.func56, Tryz.ntmps56
    go_wp2_with (first
      | (go_at_call 34; refine (check_any _ _ _ _).mono ?_; rw [H4.out]; rintro e w2 ⟨rfl, b2⟩; have B2 := Lib.hid (bchain HB.out b2); have K2 := KB.out.fr (Fr.of_below b2 : Fr S0 _ _) (fun h => h); have q3 := K2.cell (i := 3) (v := .int .i64 sl) rfl; have q4 := K2.cell (i := 4) (v := .string v) rfl; clear b2 K2)
      | (go_at_call 35; refine (isSlot_any _ _).mono ?_; rw [h5]; rintro e w' ⟨rfl, rfl⟩))
    go_returns
    exact ⟨rfl, B2.out⟩
  cases h6 : decide ((v.size : Int) ≤ 65536)
  all_goals
    go_enter Tryz.func56, Tryz.ntmps56
    go_wp2_with (first
      | (go_at_call 34; refine (check_any _ _ _ _).mono ?_; rw [H4.out]; rintro e w2 ⟨rfl, b2⟩; have B2 := Lib.hid (bchain HB.out b2); have K2 := KB.out.fr (Fr.of_below b2 : Fr S0 _ _) (fun h => h); have q3 := K2.cell (i := 3) (v := .int .i64 sl) rfl; have q4 := K2.cell (i := 4) (v := .string v) rfl; clear b2 K2)
      | (go_at_call 35; refine (isSlot_any _ _).mono ?_; rw [h5]; rintro e w' ⟨rfl, rfl⟩))
    go_returns
    exact ⟨rfl, B2.out⟩

/-! ### The keys -/
abbrev Pl := Int × Int × Int
abbrev plV (p : Pl) : Value := .agg #[.int .i64 p.1, .int .i64 p.2.1, .int .i64 p.2.2]
abbrev laV (p : Int × Int) : Value := .agg #[.int .i64 p.1, .int .i64 p.2]
theorem law_place : WideMaps.KeyLaw Tryz.prog 84 := Go.deep_law_laid (by kernel_rfl) (m := 20) (by decide) (of_decide_eq_true (by kernel_rfl)) (by kernel_rfl) (by kernel_rfl)
theorem law_last : WideMaps.KeyLaw Tryz.prog 122 := Go.deep_law_laid (by kernel_rfl) (m := 20) (by decide) (of_decide_eq_true (by kernel_rfl)) (by kernel_rfl) (by kernel_rfl)
theorem lits_int (d : Nat) {a : Int} (h : in64 a) : Tryz.prog.keyLits (d + 1) 3 [.int .i64 a] = some [.int .i64 a] := by
  unfold Program.keyLits
  rw [Tryz.underlying3]
  simp [wf64 h]
theorem lits_bal (d : Nat) {a b : Int} (ha : in64 a) (hb : in64 b) : Tryz.prog.keyLits (d + 2) 24 [.int .i64 a, .int .i64 b] = some [.int .i64 a, .int .i64 b] := by
  have h1 := lits_int d ha
  have h2 := lits_int d hb
  have c1 : Tryz.prog.cellsOf 3 = 1 := by kernel_rfl
  have c2 : Tryz.prog.cellsOf 24 = 2 := by kernel_rfl
  unfold Program.keyLits
  rw [Tryz.underlying24]
  simp [c1, c2, h1, h2]
theorem key_place (p : Pl) (h : in64 p.1 ∧ in64 p.2.1 ∧ in64 p.2.2) : keyOf Tryz.prog 84 (plV p) = some (.string (keyBytes [.int .i64 p.1, .int .i64 p.2.1, .int .i64 p.2.2])) := by
  obtain ⟨a, b, c⟩ := p
  obtain ⟨h1, h2, h3⟩ := h
  have c1 : Tryz.prog.cellsOf 3 = 1 := by kernel_rfl
  have c2 : Tryz.prog.cellsOf 24 = 2 := by kernel_rfl
  have c3 : Tryz.prog.cellsOf 84 = 3 := by kernel_rfl
  have hk : (Tryz.prog.keyType 84 && (plV (a, b, c)).formed Tryz.prog 84) = true := by kernel_rfl
  obtain ⟨m, hm⟩ : ∃ m, Tryz.prog.types.size = m + 2 := ⟨Tryz.prog.types.size - 2, by kernel_rfl⟩
  have l1 := lits_int (m + 1) h1
  have l2 := lits_bal m h2 h3
  unfold keyOf
  rw [Tryz.underlying84]
  simp only
  rw [if_pos hk, hm]
  unfold Program.keyLits
  rw [Tryz.underlying84]
  simp [c1, c2, c3, l1, l2, Value.cells]
theorem key_last (p : Int × Int) (h : in64 p.1 ∧ in64 p.2) : keyOf Tryz.prog 122 (laV p) = some (.string (keyBytes [.int .i64 p.1, .int .i64 p.2])) := by
  obtain ⟨a, b⟩ := p
  obtain ⟨h1, h2⟩ := h
  have c1 : Tryz.prog.cellsOf 3 = 1 := by kernel_rfl
  have c3 : Tryz.prog.cellsOf 122 = 2 := by kernel_rfl
  have hk : (Tryz.prog.keyType 122 && (laV (a, b)).formed Tryz.prog 122) = true := by kernel_rfl
  obtain ⟨m, hm⟩ : ∃ m, Tryz.prog.types.size = m + 2 := ⟨Tryz.prog.types.size - 2, by kernel_rfl⟩
  have l1 := lits_int (m + 1) h1
  have l2 := lits_int (m + 1) h2
  unfold keyOf
  rw [Tryz.underlying122]
  simp only
  rw [if_pos hk, hm]
  unfold Program.keyLits
  rw [Tryz.underlying122]
  simp [c1, c3, l1, l2, Value.cells]
def CPl : KeyC Tryz.prog 84 Pl :=
  ⟨plV, fun p => .string (keyBytes [.int .i64 p.1, .int .i64 p.2.1, .int .i64 p.2.2]), fun p => in64 p.1 ∧ in64 p.2.1 ∧ in64 p.2.2, key_place, fun x y h => by
    obtain ⟨a, b, c⟩ := x; obtain ⟨a', b', c'⟩ := y; simp at h; obtain ⟨rfl, rfl, rfl⟩ := h; rfl⟩
def CLa : KeyC Tryz.prog 122 (Int × Int) :=
  ⟨laV, fun p => .string (keyBytes [.int .i64 p.1, .int .i64 p.2]), fun p => in64 p.1 ∧ in64 p.2, key_last, fun x y h => by
    obtain ⟨a, b⟩ := x; obtain ⟨a', b'⟩ := y; simp at h; obtain ⟨rfl, rfl⟩ := h; rfl⟩
def CIn : KeyC Tryz.prog 3 Int :=
  ⟨fun x => .int .i64 x, fun x => .int .i64 x, in64, fun x h => keyOf_int_mk Tryz.underlying3 (wf64 h), fun x y h => by simpa using h⟩
theorem kPl : Keyed Tryz.prog 84 := Keyed.of_law law_place
theorem kLa : Keyed Tryz.prog 122 := Keyed.of_law law_last
theorem kIn : Keyed Tryz.prog 3 := int_keyed Tryz.underlying3
end Go.Proofs.YthkdmpalhdifbaaGreatDoor
