import Derived.Test.YtlfikhblmbidmaaGreatDoorMrgH
set_option linter.all false
namespace Go.Proofs.YtlfikhblmbidmaaGreatDoor
open Go.RowKit Go.Maps
theorem recR_append : ∀ (l m : List (List UInt8)) (s : NSt), recR s (l ++ m) = (recR s l).bind fun t => recR t m
 | [], m, s => rfl
 | b :: bs, m, s => by
  rw [List.cons_append]
  cases hp : parseP b with
  | none => rw [recR_none hp, recR_none hp]; rfl
  | some x =>
   by_cases h : doE s x = 0
   ·rw [recR_step hp h, recR_step hp h]; exact recR_append bs m _
   ·rw [recR_bad hp h, recR_bad hp h]; rfl
def Hist (t0 : NSt) (t : NSt) (b : List UInt8) : Prop := ∃ rs, b = framesB rs ∧ recR t0 rs = some t ∧ ∀ c ∈ rs, c.length ≤ 65536
theorem Hist.new (t0 : NSt) : Hist t0 t0 [] := ⟨[], rfl, rfl, by simp⟩
theorem Hist.step {t0 : NSt} {t : NSt} {b : List UInt8} (h : Hist t0 t b) {x : Rec} (hx : x.Ok) (hl : x.bytes.length ≤ 65536) (hd : doE t x = 0) : Hist t0 (doS t x) (b ++ frameB x.bytes) := by
 obtain ⟨rs, rfl, hr, hc⟩ := h
 refine ⟨rs ++ [x.bytes], (framesB_snoc _ _).symm, ?_, fun c hc' => ?_⟩
 ·rw [recR_append, hr]
  show recR t [x.bytes] = _
  rw [recR_step (parseP_enc hx hl) hd]
  rfl
 ·rcases List.mem_append.1 hc' with h | h
  ·exact hc c h
  ·rw [List.mem_singleton.1 h]; exact hl
theorem Hist.all {t0 : NSt} {t : NSt} {b : List UInt8} (h : Hist t0 t b) : ∃ rs, allF b = (rs, b.length) ∧ recR t0 rs = some t := by
 obtain ⟨rs, rfl, hr, hc⟩ := h
 exact ⟨rs, allF_only hc, hr⟩
theorem Hist.part {t0 : NSt} {t : NSt} {b : List UInt8} (h : Hist t0 t b) {c : List UInt8} (hl : c.length ≤ 65536) {k : Nat} (hk : k < 8 + c.length) : (allF (b ++ (frameB c).take k)).2 = b.length := by
 obtain ⟨rs, rfl, hr, hc⟩ := h
 rw [allF_frames rs hc, allF_none (nextF_part hl hk)]
 simp
theorem Hist.torn {t0 : NSt} {t : NSt} {b : List UInt8} (h : Hist t0 t b) (st : List UInt8) (has : Bool) (left : Int) : tornD ⟨b, b.length, st, has⟩ left = ⟨b, b.length, st, has⟩ := by
 obtain ⟨rs, h1, _⟩ := h.all
 have hk : b.take (b.length + keptN ⟨b, b.length, st, has⟩ left) = b := List.take_of_length_le (by omega)
 unfold tornD
 simp only [hk, h1, List.take_length]
end Go.Proofs.YtlfikhblmbidmaaGreatDoor