/- StableKeeps: fresh, do. -/
import Derived.Test.YtlfikhblmbidmaaGreatDoorKeepB
set_option linter.unusedVariables false
set_option linter.unusedSimpArgs false
namespace Go.Proofs.YtlfikhblmbidmaaGreatDoor
open Go.RowKit Go.Maps Go.Shelf Go.ChangeShapes Go.WideShapes Go.Deep

theorem kwrite {w0 w X : World} {np a m l k p q : Nat} {v sv : Value} {t0 t : NSt} {b st : List UInt8} {has : Bool} (u : Value) (x : Rec) (h : KSt w0 w np a m l k p q v sv t0 t b st has) (hF : FoursAt w0) (hx : x.Ok) (hl : x.bytes.length ≤ 100) (hb : b.length ≤ 100000) (hd : doE t x = 0)
    (hn : NS X a m l k (doS t x)) (f : Fr (nF a m l k) w X) (hu : X.ownsRow w.heap.size 5 1 u x.bytes.length (x.bytes.map u8V)) :
    Calls Tryz.prog 16 #[.pointer (some ⟨p, 0, none⟩), u] X fun e Y => e = .returned (.int .i64 0) ∧ ∃ v', KSt w0 Y np a m l k p q v' sv t0 (doS t x) (b ++ frameB x.bytes) st has := by
  have hd1 := h.dk.node h.ns f h.lo
  refine (write_yes u x.bytes hd1.at_ (sK_good (by omega) h.st) (hF.below hd1.bel) (LRow.bsIn (LRow.of_row hu)) (by omega) (by show b.length + 8 + x.bytes.length ≤ 16777216; omega)).mono ?_
  rintro e Y ⟨rfl, v', hs⟩
  exact ⟨rfl, v', h.wrote hx (by omega) hd hn f hs⟩

set_option maxRecDepth 100000 in
set_option maxHeartbeats 2000000 in
theorem fresh_any (w : World) (hF : FoursAt w) : Calls Tryz.prog 56 #[] w fun e w' => ∃ np a m l k p q, e = .returned (.tuple #[.pointer (some ⟨np, 0, none⟩), .bool true]) ∧ KSt w w' np a m l k p q (.slice none 0 0) (.slice none 0 0) (newN 3) (newN 3) [] [] false := by
  have HF := Lib.hid hF
  clear hF
  go_enter Tryz.func56, Tryz.ntmps56
  go_wp2_with (first
    | (go_at_call 14; refine (dnew_any _).mono ?_; rintro e x1 ⟨dp, dq, rfl, hd, hdp, hdq, hb⟩; have D1 := Lib.hid (show DkB w dp dq _ _ (sD []) x1 from ⟨hd, (fun i hi => by rcases hi with rfl | rfl | e | e; exact hdp; exact hdq; cases e; cases e), hb⟩); clear hd hb)
    | (go_at_call 15; refine (recover_lo 3 ⟨by decide, by decide⟩ D1.out (by decide) (HF.out.below D1.out.bel) frN (t := newN 3) rfl).mono ?_; rintro e x2 ⟨aa, am, ll, lk, rfl, hn, hlo, hb⟩; have D2 := Lib.hid (D1.out.below hb); have N2 := Lib.hid hn; have L2 : Hid (∀ i, nF aa am ll lk i → w.heap.size ≤ i) := fun i hi => Nat.le_trans D1.out.bel.size (hlo i hi); clear hn hb hlo D1))
  go_returns
  have hb3 := box_below x2 (.cells (ndC aa ll dp) 89)
  refine ⟨x2.heap.size, aa, am, ll, lk, dp, dq, rfl, Blk.new x2 _ _, N2.out.below hb3, D2.out.below hb3, Hist.new _, by decide, L2.out, D2.out.bel.size⟩

set_option maxRecDepth 100000 in
set_option maxHeartbeats 2000000 in
theorem kdo_any {w0 w : World} {np a m l k p q : Nat} {v sv : Value} {t0 t : NSt} {b st : List UInt8} {has : Bool} (h : KSt w0 w np a m l k p q v sv t0 t b st has) (hF : FoursAt w0) (u : Value) (L : List Dd) (hL : DeedsIn w0 u L) (hn : L.length ≤ 60) (hb : b.length ≤ 10000) :
    Calls Tryz.prog 57 #[.pointer (some ⟨np, 0, none⟩), u] w fun e w' => e = .returned (.bool true) ∧ ∃ v' t' b', KSt w0 w' np a m l k p q v' sv t0 t' b' st has ∧ b'.length ≤ b.length + 108 * L.length := by
  obtain ⟨A, cap, rfl, hle, hm, hok, hc⟩ := hL
  have HC := Lib.hid hc
  have HOK := Lib.hid hok
  have HF0 := Lib.hid hF
  have HK := Lib.hid h
  clear hc hok hF h
  go_enter Tryz.func57, Tryz.ntmps57
  go_wp2_with fail
  go_loopg [12] L.length (fun g c wr => ∃ (i : Nat) (v' : Value) (t' : NSt) (b' : List UInt8), i ≤ L.length ∧ g = L.length - i ∧ c = .int .i64 i ∧ KSt w0 wr np a m l k p q v' sv t0 t' b' st has ∧ b'.length ≤ b.length + 108 * i)
  case atStart => exact ⟨0, _, _, _, by omega, by omega, rfl, HK.out, by omega⟩
  case round =>
    obtain ⟨i, v', t', b', hi, rfl, rfl, hk, hbl⟩ := hrel
    have K1 := Lib.hid hk
    clear hk
    by_cases hlt : i < L.length
    case neg =>
      have e : i = L.length := by omega
      subst e
      go_wp2_with fail
      go_returns
      exact ⟨rfl, _, _, _, K1.out, hbl⟩
    case pos =>
    obtain ⟨bb, off, rfl, hbb, kc⟩ := HC.out (by omega)
    obtain ⟨x, hx⟩ : ∃ x, L[i]? = some x := ⟨_, List.getElem?_eq_getElem hlt⟩
    have hox := HOK.out x (List.mem_of_getElem? hx)
    have hbel := K1.out.dk.bel
    have c0 : wr.cell? ⟨bb, off + i * 5, none⟩ = some (.int .u8 (x.1 : Int)) := bcell hbel (kc i x hx 0 _ rfl)
    have c1 : wr.cell? ⟨bb, off + i * 5 + 1, none⟩ = some (.int .u8 (x.2.1 : Int)) := bcell hbel (kc i x hx 1 _ rfl)
    have c2 : wr.cell? ⟨bb, off + i * 5 + 2, none⟩ = some (.int .u8 (x.2.2.1 : Int)) := bcell hbel (kc i x hx 2 _ rfl)
    have c3 : wr.cell? ⟨bb, off + i * 5 + 3, none⟩ = some (.int .u8 (x.2.2.2.1 : Int)) := bcell hbel (kc i x hx 3 _ rfl)
    have c4 : wr.cell? ⟨bb, off + i * 5 + 4, none⟩ = some (.int .u8 (x.2.2.2.2 : Int)) := bcell hbel (kc i x hx 4 _ rfl)
    have ROK := Lib.hid (recD_ok x)
    have RLN := Lib.hid (recD_len x)
    clear kc hx hbel
    have hb2 := box_below wr (.cells (ddC x) 83)
    have K2 := Lib.hid (K1.out.below hb2)
    have KX := Blk.new wr 83 (ddC x)
    have d0 := KX.cell (i := 0) (v := .int .u8 (x.1 : Int)) rfl
    have d1 := KX.cell (i := 1) (v := .int .u8 (x.2.1 : Int)) rfl
    have d2 := KX.cell (i := 2) (v := .int .u8 (x.2.2.1 : Int)) rfl
    have d3 := KX.cell (i := 3) (v := .int .u8 (x.2.2.2.1 : Int)) rfl
    have d4 := KX.cell (i := 4) (v := .int .u8 (x.2.2.2.2 : Int)) rfl
    clear hb2 KX
    go_upto_region 5 with (go_at_call 62; (with_reducible refine (record_any x hox K2.out.blk K2.out.ns).mono ?_); rintro e w3 ⟨vo, rfl, hv, hns, hf⟩; obtain ⟨Ao, no', co, rfl⟩ := row_shape hv; have RV := Lib.hid hv; have N3 := Lib.hid hns; have F3 := Lib.hid hf; have e2 := (K2.out.blk.fr hf (nd_nF K2.out.blk K2.out.ns)).cell (i := 2) (v := .pointer (some ⟨p, 0, none⟩)) rfl; clear hv hns hf)
    clear d0 d1 d2 d3 d4 c0 c1 c2 c3 c4
    by_cases hd : doE t' (recD x) = 0
    · have hd' : decide (doE t' (recD x) = 0) = true := by simpa using hd
      rw [hd']
      go_wp2_with (go_at_call 16; (with_reducible refine (kwrite (.slice Ao no' co) (recD x) K2.out HF0.out ROK.out RLN.out ?_ hd N3.out F3.out RV.out).mono ?_); omega; rintro e w4 ⟨rfl, v4, hk4⟩; have K4 := Lib.hid hk4; clear hk4)
      go_roundg (L.length - (i + 1))
      case measure => omega
      case rel =>
        have hfl := frameB_length (recD x).bytes
        have hr := RLN.out
        exact ⟨i + 1, _, _, _, by omega, rfl, by go_num, K4.out, by rw [List.length_append]; omega⟩
    · have hd' : decide (doE t' (recD x) = 0) = false := by simpa using hd
      rw [hd']
      have hn3 := N3.out
      rw [doS_bad hd] at hn3
      have K3 := Lib.hid (K2.out.stays hn3 F3.out)
      clear hn3
      go_wp2_with fail
      go_roundg (L.length - (i + 1))
      case measure => omega
      case rel => exact ⟨i + 1, _, _, _, by omega, rfl, by go_num, K3.out, by omega⟩
theorem DeedV.of_trod {H : Type} {enc : TypeId × Value → H} {w : World} {base : Nat} {spare : Nat → Bool} {held : Bool} {cs : Array Value} {d : DataW H} {p : List MemPlace}
    (h : DataW.Trod enc Tryz.prog w base spare held 83 (.agg cs) d p) : ∃ s : Dd, cs = ddC s ∧ okDd s := by
  obtain ⟨fuel, hf⟩ := h
  obtain ⟨s, e, h1⟩ := dd_open hf
  refine ⟨s, ?_, h1⟩
  have e' : cs.toList = (ddC s).toList := e
  exact Array.toList_inj.1 e'
/-- The first sixty of some deeds. -/
theorem DeedsIn.take {w : World} {A : Option Addr} {len cap : Nat} {L : List Dd} (h : DeedsIn w (.slice A len cap) L) (k : Nat) (hk : k ≤ L.length) : DeedsIn w (.slice A k cap) (L.take k) := by
  obtain ⟨A', cap', e, h2, h3, h4, h5⟩ := h
  cases e
  have hl : (L.take k).length = k := by rw [List.length_take]; omega
  refine ⟨A, cap, by rw [hl], by omega, h3, fun s hs => h4 s (List.mem_of_mem_take hs), fun h0 => ?_⟩
  obtain ⟨b, off, k1, k2, k3⟩ := h5 (by omega)
  refine ⟨b, off, k1, k2, fun i s hs j u hu => k3 i s ?_ j u hu⟩
  rw [List.getElem?_take] at hs
  split at hs
  · exact hs
  · cases hs
theorem recover_hist {w0 X : World} {p q : Nat} {v sv : Value} {b : List UInt8} {t : NSt} (h : DkB w0 p q v sv (sD b) X) (hb : b.length ≤ 100000) (hF : FoursAt X) (hh : Hist (newN 3) t b) :
    Calls Tryz.prog 15 #[.int .i64 3, .pointer (some ⟨p, 0, none⟩)] X fun e Y => ∃ a m l k, e = .returned (.tuple #[.pointer (some ⟨a, 0, none⟩), .pointer (some ⟨l, 0, none⟩), .int .i64 0]) ∧ NS Y a m l k t ∧ Below X.heap.size X Y :=
  (recover_some 3 ⟨by decide, by decide⟩ h (by omega) hF (rfl : (allF b).1 = _) hh.rec_).mono (by rintro e Y ⟨a, m, c, k, he, hn, hb⟩; exact ⟨a, m, c, k, he, hn, hb⟩)
end Go.Proofs.YtlfikhblmbidmaaGreatDoor
