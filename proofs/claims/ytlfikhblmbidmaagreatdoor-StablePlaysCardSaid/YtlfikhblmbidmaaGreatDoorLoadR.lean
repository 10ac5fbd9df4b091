import Derived.Test.YtlfikhblmbidmaaGreatDoorLoadW
set_option linter.all false
namespace Go.Proofs.YtlfikhblmbidmaaGreatDoor
open Go.RowKit Go.Maps
set_option maxRecDepth 100000 in
set_option maxHeartbeats 2000000 in
theorem readingL_ret (a m q k sX nX : Nat) (v : Value) (bs : List UInt8) (w : World) (st : Rd) (R : World → Prop) (hX : ∀ i, nF a m q k i → i < w.heap.size) (hv : BsIn w v bs) (hl : bs.length ≤ 100000000)
  (hread : ∀ W p, Below w.heap.size w W → RdAt W (w.heap.size + 1) p (some bs) → Calls Tryz.prog 72 #[rdV p, .pointer (some ⟨sX, 0, none⟩), .pointer (some ⟨nX, 0, none⟩)] W fun e W' => e = .returned (.tuple #[]) ∧ RdAt W' (w.heap.size + 1) p st ∧ Fr (LF p a m q k) W W' ∧ R W')
  (hR : ∀ A B, Fr (S1 w.heap.size) A B → R A → R B) :
  Calls Tryz.prog 71 #[v, .func (.func 72) #[] #[.pointer (some ⟨sX, 0, none⟩), .pointer (some ⟨nX, 0, none⟩)]] w fun e w' => e = .returned (.bool (endE st == 0)) ∧ Fr (nF a m q k) w w' ∧ R w' := by
 have hmf : ∀ (fn : Fn) (first cap : Array Value) (w : World), (Instr.makeFunc fn first cap).run Tryz.prog w = .ok (.func fn first cap) w := fun _ _ _ _ => rfl
 have hb1 : Below w.heap.size w (w.alloc (.cells #[.bool false] 4)) := (Below.refl _ w).alloc (Nat.le_refl _) _
 have HRD := Lib.hid (rread_any v bs _ (hv.below hb1) hl)
 have HB1 := Lib.hid hb1
 have hB := Blk.new w 4 #[.bool false]
 have HBK := Lib.hid hB
 have HREAD := Lib.hid hread
 have HX := Lib.hid hX
 have HRR := Lib.hid hR
 clear hread hR hb1 hB hv hX
 go_enter_defers Tryz.func71, Tryz.ntmps71
 go_wp2_with (first
  | (go_at_call 155; refine HRD.out.mono ?_; rintro e w2 ⟨p, rfl, h2, b2⟩; rw [World.size_alloc] at h2 b2; have H2 := Lib.hid h2; have HB2 := Lib.hid b2; clear h2 b2 HRD))
 have hlo := H2.out.lo
 have hpl := H2.out.lt
 have hz2 := HB2.out.size
 rw [World.size_alloc] at hz2
 have hb3 : Below w2.heap.size w2 (w2.alloc (.cells #[.pointer (some ⟨p, 0, none⟩)] 117)) := (Below.refl _ _).alloc (Nat.le_refl _) _
 have hbw : Below w.heap.size w (w2.alloc (.cells #[.pointer (some ⟨p, 0, none⟩)] 117)) := (HB1.out.trans (HB2.out.mono (by omega))).trans (hb3.mono (by omega))
 have hbox : Blk (w2.alloc (.cells #[.pointer (some ⟨p, 0, none⟩)] 117)) w2.heap.size 117 #[.pointer (some ⟨p, 0, none⟩)] := Blk.new _ _ _
 have hok : Blk (w2.alloc (.cells #[.pointer (some ⟨p, 0, none⟩)] 117)) w.heap.size 4 #[.bool false] := (HBK.out.of_block (HB2.out.block _ (by omega))).alloc _
 refine (HREAD.out _ p hbw (H2.out.below hb3)).mono ?_
 rintro e w3 ⟨rfl, h3, f3, r3⟩
 have hbox3 := hbox.fr f3 (fun e => by rcases e with e | e <;> first | omega | (have := HX.out _ e; omega))
 have hok3 := hok.fr f3 (fun e => by rcases e with e | e <;> first | omega | (have := HX.out _ e; omega))
 have hc0 := hbox3.cell (i := 0) rfl
 have hc1 := hok3.cell (i := 0) rfl
 have hf1 := hok3.frozen 0
 have HE := Lib.hid (rend_any _ p st w3 h3)
 have HOK := Lib.hid hok3
 have HF3 := Lib.hid f3
 have HR3 := Lib.hid r3
 have HBW := Lib.hid hbw
 clear h3 f3 r3 hbw hok3 hok hbox hbox3 hb3
 obtain ⟨E, hE⟩ : ∃ E, endE st = E := ⟨_, rfl⟩
 rw [hE] at HE
 have HEE := Lib.hid hE
 clear hE
 go_wp2_with (go_at_call 156; refine HE.out.mono ?_; rintro e w4 ⟨rfl, rfl⟩)
 have hfin := HOK.out.set 0 (.bool (E == 0))
 have qq := hfin.cell (i := 0) (v := .bool (E == 0)) rfl
 have hfr : Fr (nF a m q k) w (w3.setCell ⟨w.heap.size, 0, none⟩ (.bool (E == 0))) := ((Fr.of_below HBW.out).trans' HF3.out (fun i hi e => by
  rcases e with e | e
  ·omega
  ·exact e)).trans' (fr_set w3 w.heap.size 0 _) (fun i hi e => by have e : i = w.heap.size := e; omega)
 have hrf := HRR.out _ _ (fr_set w3 w.heap.size 0 (.bool (E == 0))) HR3.out
 rw [HEE.out]
 refine leaves_cons (f := 154) (args := #[.pointer (some ⟨w.heap.size, 0, none⟩)]) (by simp) (by simp [go_sem]) ?_
 refine (catch_idle w.heap.size _).mono ?_
 rintro e u' w'' ⟨rfl, rfl, rfl⟩
 simp [Leaves, settle, results, Tryz.results71, go_sem, qq]
 exact ⟨hfr, hrf⟩
set_option maxRecDepth 100000 in
set_option maxHeartbeats 2000000 in
theorem readingL_mal (a m q k sX nX : Nat) (v : Value) (bs : List UInt8) (w : World) (hX : ∀ i, nF a m q k i → i < w.heap.size) (hv : BsIn w v bs) (hl : bs.length ≤ 100000000)
  (hread : ∀ W p, Below w.heap.size w W → RdAt W (w.heap.size + 1) p (some bs) → Calls Tryz.prog 72 #[rdV p, .pointer (some ⟨sX, 0, none⟩), .pointer (some ⟨nX, 0, none⟩)] W fun e W' => e = .panicked malC ∧ Fr (LF p a m q k) W W') :
  Calls Tryz.prog 71 #[v, .func (.func 72) #[] #[.pointer (some ⟨sX, 0, none⟩), .pointer (some ⟨nX, 0, none⟩)]] w fun e w' => e = .returned (.bool false) ∧ Fr (nF a m q k) w w' := by
 have hmf : ∀ (fn : Fn) (first cap : Array Value) (w : World), (Instr.makeFunc fn first cap).run Tryz.prog w = .ok (.func fn first cap) w := fun _ _ _ _ => rfl
 have hb1 : Below w.heap.size w (w.alloc (.cells #[.bool false] 4)) := (Below.refl _ w).alloc (Nat.le_refl _) _
 have HRD := Lib.hid (rread_any v bs _ (hv.below hb1) hl)
 have HB1 := Lib.hid hb1
 have hB := Blk.new w 4 #[.bool false]
 have HBK := Lib.hid hB
 have HREAD := Lib.hid hread
 have HX := Lib.hid hX
 clear hread hb1 hB hv hX
 go_enter_defers Tryz.func71, Tryz.ntmps71
 go_wp2_with (first
  | (go_at_call 155; refine HRD.out.mono ?_; rintro e w2 ⟨p, rfl, h2, b2⟩; rw [World.size_alloc] at h2 b2; have H2 := Lib.hid h2; have HB2 := Lib.hid b2; clear h2 b2 HRD))
 have hlo := H2.out.lo
 have hpl := H2.out.lt
 have hz2 := HB2.out.size
 rw [World.size_alloc] at hz2
 have hb3 : Below w2.heap.size w2 (w2.alloc (.cells #[.pointer (some ⟨p, 0, none⟩)] 117)) := (Below.refl _ _).alloc (Nat.le_refl _) _
 have hbw : Below w.heap.size w (w2.alloc (.cells #[.pointer (some ⟨p, 0, none⟩)] 117)) := (HB1.out.trans (HB2.out.mono (by omega))).trans (hb3.mono (by omega))
 have hok : Blk (w2.alloc (.cells #[.pointer (some ⟨p, 0, none⟩)] 117)) w.heap.size 4 #[.bool false] := (HBK.out.of_block (HB2.out.block _ (by omega))).alloc _
 refine (HREAD.out _ p hbw (H2.out.below hb3)).mono ?_
 rintro e w3 ⟨rfl, f3⟩
 have hok3 := hok.fr f3 (fun e => by rcases e with e | e <;> first | omega | (have := HX.out _ e; omega))
 have HOK := Lib.hid hok3
 have HF3 := Lib.hid f3
 have HBW := Lib.hid hbw
 clear f3 hbw hok3 hok hb3
 go_wp2_with fail
 refine leaves_cons (f := 154) (args := #[.pointer (some ⟨w.heap.size, 0, none⟩)]) (by simp) (by simp [go_sem]) ?_
 refine (catch_mal w.heap.size false _ HOK.out).mono ?_
 rintro e u' w'' ⟨rfl, rfl, hok4, f4⟩
 have qq := hok4.cell (i := 0) (v := .bool false) rfl
 have hfr : Fr (nF a m q k) w w'' := ((Fr.of_below HBW.out).trans' HF3.out (fun i hi e => by
  rcases e with e | e
  ·omega
  ·exact e)).trans' f4 (fun i hi e => by have e : i = w.heap.size := e; omega)
 simp [Leaves, settle, results, Tryz.results71, go_sem, qq, malC2]
 exact hfr
theorem LoadPost.mono {w w1 w' : World} {lo p a m q k : Nat} {n : Int} {st : Rd} {e : Ending} (h : LoadPost w1 lo p a m q k n st e w') (b : Below w.heap.size w w1) : LoadPost w lo p a m q k n st e w' := by
 unfold LoadPost at h ⊢
 cases hp : loadP n st with
 | none =>
  rw [hp] at h
  exact ⟨h.1, (Fr.of_below b).trans h.2⟩
 | some x =>
  rw [hp] at h
  exact ⟨h.1, h.2.1, h.2.2.1, (Fr.of_below b).trans h.2.2.2⟩
set_option maxRecDepth 100000 in
set_option maxHeartbeats 2000000 in
theorem recl_any (n : Int) (hn : okN n) (lo p a m q k sX nX : Nat) (st : Rd) (w : World) (hr : RdAt w lo p st) (hs : Rsmall st) (hns : NS w a m q k (newN n)) (hnlo : ∀ i, nF a m q k i → i < lo)
  (h1 : Blk w sX 113 #[.pointer (some ⟨a, 0, none⟩), .pointer (some ⟨q, 0, none⟩)]) (h2 : Blk w nX 3 #[.int .i64 n]) :
  Calls Tryz.prog 72 #[rdV p, .pointer (some ⟨sX, 0, none⟩), .pointer (some ⟨nX, 0, none⟩)] w (LoadPost w lo p a m q k n st) := by
 have hb := box_below w (.cells #[.pointer (some ⟨p, 0, none⟩)] 117)
 have k1 := h1.of_block (hb.block _ h1.lt)
 have k2 := h2.of_block (hb.block _ h2.lt)
 have k3 := Blk.new w 117 #[.pointer (some ⟨p, 0, none⟩)]
 have c0 := k1.cell (i := 0) (v := .pointer (some ⟨a, 0, none⟩)) rfl
 have c1 := k1.cell (i := 1) (v := .pointer (some ⟨q, 0, none⟩)) rfl
 have c2 := k2.cell (i := 0) (v := .int .i64 n) rfl
 have c3 := k3.cell (i := 0) (v := .pointer (some ⟨p, 0, none⟩)) rfl
 have HL := Lib.hid (load_any n hn lo p a m q k st _ (hr.below hb) hs (hns.below hb) hnlo)
 have HB := Lib.hid hb
 clear hb k1 k2 k3 h1 h2 hr hns
 cases hp : loadP n st with
 | none =>
  have HLN : Hid (Calls Tryz.prog 73 #[.agg #[.pointer (some ⟨a, 0, none⟩), .pointer (some ⟨q, 0, none⟩)], .int .i64 n, rdV p] (w.alloc (.cells #[.pointer (some ⟨p, 0, none⟩)] 117)) fun e w' => e = .panicked malC ∧ Fr (LF p a m q k) (w.alloc (.cells #[.pointer (some ⟨p, 0, none⟩)] 117)) w') := HL.out.mono fun e w' h => by
   unfold LoadPost at h
   rw [hp] at h
   exact h
  go_enter Tryz.func72, Tryz.ntmps72
  go_wp2_with (go_at_call 73; refine HLN.out.mono ?_; rintro e w2 ⟨rfl, hf⟩; have F2 := Lib.hid hf; clear hf)
  exact ⟨rfl, LoadPost.no hp ((Fr.of_below HB.out).trans F2.out)⟩
 | some x =>
  have HLY : Hid (Calls Tryz.prog 73 #[.agg #[.pointer (some ⟨a, 0, none⟩), .pointer (some ⟨q, 0, none⟩)], .int .i64 n, rdV p] (w.alloc (.cells #[.pointer (some ⟨p, 0, none⟩)] 117)) fun e w' => e = .returned (.tuple #[]) ∧ RdAt w' lo p x.2 ∧ NS w' a m q k x.1 ∧ Fr (LF p a m q k) (w.alloc (.cells #[.pointer (some ⟨p, 0, none⟩)] 117)) w') := HL.out.mono fun e w' h => by
   unfold LoadPost at h
   rw [hp] at h
   exact h
  go_enter Tryz.func72, Tryz.ntmps72
  go_wp2_with (go_at_call 73; refine HLY.out.mono ?_; rintro e w2 ⟨rfl, hr, hs, hf⟩; have R2 := Lib.hid hr; have N2 := Lib.hid hs; have F2 := Lib.hid hf; clear hr hs hf)
  go_end0
  exact LoadPost.yes hp R2.out N2.out ((Fr.of_below HB.out).trans F2.out)
def RdLPost (w : World) (a m q k : Nat) (n : Int) (bs : List UInt8) (e : Ending) (w' : World) : Prop :=
 Fr (nF a m q k) w w' ∧ match loadP n (some bs) with
 | none => e = .returned (.bool false)
 | some x => e = .returned (.bool (endE x.2 == 0)) ∧ NS w' a m q k x.1
theorem readingL (n : Int) (hn : okN n) (a m q k sX nX : Nat) (v : Value) (bs : List UInt8) (w : World) (hv : BsIn w v bs) (hl : bs.length ≤ 100000000) (hns : NS w a m q k (newN n))
  (h1 : Blk w sX 113 #[.pointer (some ⟨a, 0, none⟩), .pointer (some ⟨q, 0, none⟩)]) (h2 : Blk w nX 3 #[.int .i64 n]) :
  Calls Tryz.prog 71 #[v, .func (.func 72) #[] #[.pointer (some ⟨sX, 0, none⟩), .pointer (some ⟨nX, 0, none⟩)]] w (RdLPost w a m q k n bs) := by
 have hlt : ∀ i, nF a m q k i → i < w.heap.size := fun i hi => hns.lt hi
 have hrs : Rsmall (some bs) := fun b hb => by cases hb; exact hl
 cases hp : loadP n (some bs) with
 | none =>
  refine (readingL_mal a m q k sX nX v bs w hlt hv hl fun W p hb hr => ?_).mono fun e w' h => ?_
  ·refine (recl_any n hn _ p a m q k sX nX (some bs) W hr hrs (hns.below hb) (fun i hi => by have := hlt i hi; omega) (h1.of_block (hb.block _ h1.lt)) (h2.of_block (hb.block _ h2.lt))).mono fun e W' h => ?_
   unfold LoadPost at h
   rw [hp] at h
   exact h
  ·unfold RdLPost
   rw [hp]
   exact ⟨h.2, h.1⟩
 | some x =>
  refine (readingL_ret a m q k sX nX v bs w x.2 (fun W => NS W a m q k x.1) hlt hv hl (fun W p hb hr => ?_) (fun A B f h => h.fr f (fun i hi e => by have e : i = w.heap.size := e; have := hlt i hi; omega))).mono fun e w' h => ?_
  ·refine (recl_any n hn _ p a m q k sX nX (some bs) W hr hrs (hns.below hb) (fun i hi => by have := hlt i hi; omega) (h1.of_block (hb.block _ h1.lt)) (h2.of_block (hb.block _ h2.lt))).mono fun e W' h => ?_
   unfold LoadPost at h
   rw [hp] at h
   exact ⟨h.1, h.2.1, h.2.2.2, h.2.2.1⟩
  ·unfold RdLPost
   rw [hp]
   exact ⟨h.2.1, h.1, h.2.2⟩
end Go.Proofs.YtlfikhblmbidmaaGreatDoor