/- StableKeeps: plain. -/
import Derived.Test.YtlfikhblmbidmaaGreatDoorMrgH
set_option linter.unusedVariables false
set_option linter.unusedSimpArgs false
namespace Go.Proofs.YtlfikhblmbidmaaGreatDoor
open Go.RowKit Go.Maps

theorem recR_append : ∀ (l m : List (List UInt8)) (s : NSt), recR s (l ++ m) = (recR s l).bind fun t => recR t m
  | [], m, s => rfl
  | b :: bs, m, s => by
    rw [List.cons_append]
    cases hp : parseP b with
    | none => rw [recR_none hp, recR_none hp]; rfl
    | some x =>
      by_cases h : doE s x = 0
      · rw [recR_step hp h, recR_step hp h]; exact recR_append bs m _
      · rw [recR_bad hp h, recR_bad hp h]; rfl
/-- The bytes b are records that lead to t. -/
def Hist (t0 : NSt) (t : NSt) (b : List UInt8) : Prop := ∃ rs, b = framesB rs ∧ recR t0 rs = some t ∧ ∀ c ∈ rs, c.length ≤ 65536
theorem Hist.new (t0 : NSt) : Hist t0 t0 [] := ⟨[], rfl, rfl, by simp⟩
theorem Hist.step {t0 : NSt} {t : NSt} {b : List UInt8} (h : Hist t0 t b) {x : Rec} (hx : x.Ok) (hl : x.bytes.length ≤ 65536) (hd : doE t x = 0) : Hist t0 (doS t x) (b ++ frameB x.bytes) := by
  obtain ⟨rs, rfl, hr, hc⟩ := h
  refine ⟨rs ++ [x.bytes], (framesB_snoc _ _).symm, ?_, fun c hc' => ?_⟩
  · rw [recR_append, hr]
    show recR t [x.bytes] = _
    rw [recR_step (parseP_enc hx hl) hd]
    rfl
  · rcases List.mem_append.1 hc' with h | h
    · exact hc c h
    · rw [List.mem_singleton.1 h]; exact hl
theorem Hist.all {t0 : NSt} {t : NSt} {b : List UInt8} (h : Hist t0 t b) : ∃ rs, allF b = (rs, b.length) ∧ recR t0 rs = some t := by
  obtain ⟨rs, rfl, hr, hc⟩ := h
  exact ⟨rs, allF_only hc, hr⟩
theorem Hist.rec_ {t0 : NSt} {t : NSt} {b : List UInt8} (h : Hist t0 t b) : recR t0 (allF b).1 = some t := by
  obtain ⟨rs, h1, h2⟩ := h.all
  rw [h1]
  exact h2
theorem Hist.part {t0 : NSt} {t : NSt} {b : List UInt8} (h : Hist t0 t b) {c : List UInt8} (hl : c.length ≤ 65536) {k : Nat} (hk : k < 8 + c.length) : (allF (b ++ (frameB c).take k)).2 = b.length := by
  obtain ⟨rs, rfl, hr, hc⟩ := h
  rw [allF_frames rs hc, allF_none (nextF_part hl hk)]
  simp
/-- What is safe stays when a disk is torn. -/
theorem Hist.torn {t0 : NSt} {t : NSt} {b : List UInt8} (h : Hist t0 t b) (st : List UInt8) (has : Bool) (left : Int) : tornD ⟨b, b.length, st, has⟩ left = ⟨b, b.length, st, has⟩ := by
  obtain ⟨rs, h1, _⟩ := h.all
  have hk : b.take (b.length + keptN ⟨b, b.length, st, has⟩ left) = b := List.take_of_length_le (by omega)
  unfold tornD
  simp only [hk, h1, List.take_length]
/-- A record that is not safe: all of it stays, or nothing. -/
theorem Hist.torn_part {t0 : NSt} {t : NSt} {b : List UInt8} (h : Hist t0 t b) {c : List UInt8} (hl : c.length ≤ 65536) (st : List UInt8) (has : Bool) (left : Nat) (hlt : b.length + left < (b ++ frameB c).length) :
    tornD ⟨b ++ frameB c, b.length, st, has⟩ (left : Int) = ⟨b, b.length, st, has⟩ := by
  have hf := frameB_length c
  have hlen : (b ++ frameB c).length = b.length + (8 + c.length) := by rw [List.length_append, hf]
  have hk : keptN ⟨b ++ frameB c, b.length, st, has⟩ (left : Int) = left := by
    unfold keptN
    show (max 0 (min (left : Int) (((b ++ frameB c).length : Int) - (b.length : Int)))).toNat = left
    omega
  have ht : (b ++ frameB c).take (b.length + left) = b ++ (frameB c).take left := by rw [List.take_append, List.take_of_length_le (by omega), Nat.add_sub_cancel_left]
  have hp := h.part hl (k := left) (by omega)
  unfold tornD
  simp only [hk, ht, hp]
  rw [List.take_append]
  simp
theorem Hist.torn_whole {t0 : NSt} {t : NSt} {b c : List UInt8} (h : Hist t0 t (b ++ frameB c)) (st : List UInt8) (has : Bool) (left : Nat) (hge : (b ++ frameB c).length ≤ b.length + left) :
    tornD ⟨b ++ frameB c, b.length, st, has⟩ (left : Int) = ⟨b ++ frameB c, (b ++ frameB c).length, st, has⟩ := by
  have hf := frameB_length c
  have hlen : (b ++ frameB c).length = b.length + (8 + c.length) := by rw [List.length_append, hf]
  have hk : b.length + keptN ⟨b ++ frameB c, b.length, st, has⟩ (left : Int) = (b ++ frameB c).length := by
    unfold keptN
    show b.length + (max 0 (min (left : Int) (((b ++ frameB c).length : Int) - (b.length : Int)))).toNat = _
    omega
  obtain ⟨rs, h1, _⟩ := h.all
  unfold tornD
  simp only [hk, List.take_length, h1]

theorem doS_bad {s : NSt} {x : Rec} (h : ¬ doE s x = 0) : doS s x = s := by
  unfold doE at h
  unfold doS
  by_cases h1 : x.k = 1
  · rw [if_pos h1] at h ⊢
    simp only [prS, if_neg h]
  · rw [if_neg h1] at h ⊢
    by_cases h2 : x.k = 2
    · rw [if_pos h2] at h ⊢
      simp only [acS, if_neg h]
    · rw [if_neg h2] at h ⊢
      simp only [lputS, if_neg h]
/-- A deed: kind, round, node, slot, value. -/
abbrev Dd := Nat × Nat × Nat × Nat × Nat
def okDd (x : Dd) : Prop := x.1 < 256 ∧ x.2.1 < 256 ∧ x.2.2.1 < 256 ∧ x.2.2.2.1 < 256 ∧ x.2.2.2.2 < 256
def repL (b : UInt8) (n : Nat) : List UInt8 := Lib.repeatL (⟨#[b]⟩ : ByteArray).data.toList n
theorem repL_len (b : UInt8) (n : Nat) : (repL b n).length = n := by
  show (Lib.repeatL [b] n).length = n
  rw [Lib.repeatL_length]
  simp
def recD (x : Dd) : Rec :=
  if x.1 % 3 = 0 then ⟨1, 1 + x.2.1 % 6, x.2.2.1 % 3, 0, []⟩
  else if x.1 % 3 = 1 then ⟨2, 1 + x.2.1 % 6, x.2.2.1 % 3, x.2.2.2.1 % 12, repL 118 (x.2.2.2.2 % 40)⟩
  else ⟨3, 0, 0, x.2.2.2.1 % 12, repL 99 (x.2.2.2.1 % 12)⟩
theorem recD_ok (x : Dd) : (recD x).Ok := by
  unfold recD
  split
  · exact ⟨by simp, by simp, fun _ => ⟨by show 1 ≤ 1 + _; omega, by show 1 + _ ≤ 1073741824; omega, by show _ % 3 ≤ 6; omega⟩, fun h => absurd h (by simp), fun h => absurd rfl h, fun _ => ⟨rfl, rfl⟩⟩
  · split
    · exact ⟨by simp, by simp, fun _ => ⟨by show 1 ≤ 1 + _; omega, by show 1 + _ ≤ 1073741824; omega, by show _ % 3 ≤ 6; omega⟩, fun h => absurd h (by simp), fun _ => by show _ % 12 ≤ 4095; omega, fun h => absurd h (by simp)⟩
    · exact ⟨by simp, by simp, fun h => absurd rfl h, fun _ => ⟨rfl, rfl⟩, fun _ => by show _ % 12 ≤ 4095; omega, fun h => absurd h (by simp)⟩
theorem recD_len (x : Dd) : (recD x).bytes.length ≤ 100 := by
  unfold recD
  split
  · simp only [Rec.bytes, if_true, List.length_append, uintB_lt (show 1 < 128 by decide), uintB_lt (show 1 + x.2.1 % 6 < 128 by omega), uintB_lt (show x.2.2.1 % 3 < 128 by omega), List.length_cons, List.length_nil]
    simp
  · split
    · simp only [Rec.bytes, List.length_append, textB, repL_len, uintB_lt (show 2 < 128 by decide), uintB_lt (show 1 + x.2.1 % 6 < 128 by omega), uintB_lt (show x.2.2.1 % 3 < 128 by omega), uintB_lt (show x.2.2.2.1 % 12 < 128 by omega), uintB_lt (show x.2.2.2.2 % 40 < 128 by omega), List.length_cons, List.length_nil]
      simp [repL_len]
      omega
    · simp only [Rec.bytes, List.length_append, textB, repL_len, uintB_lt (show 3 < 128 by decide), uintB_lt (show x.2.2.2.1 % 12 < 128 by omega), List.length_cons, List.length_nil]
      simp [repL_len]
      omega
end Go.Proofs.YtlfikhblmbidmaaGreatDoor
