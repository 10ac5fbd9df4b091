/-
  NARROWER THAN 'FOR EVERY INPUT', by the rows' own cells (each row's printed sentence says how): StableRefuses: laid · StableRecords: laid · StableBack: laid · StableRecovers: laid · StablePlays: laid · StableLong: laid · StableKeeps: laid · StableCompacts: laid.
  DERIVED. THE GIVEN ROWS OF THIS SEAT. 8 by the template 'for every input the law returns true; each argument reads behind the call as it read before'; 0 by the template 'total and deterministic' (their statements: YtlfikhblmbidmaaGreatDoorTotals.lean).
  GIVEN WITH THE SEED: the statements are not yours to turn. If you find one false, say at which input.
  Laid BY PROGRAM, IN A SANDBOX (cutbox-rows.mjs): the forced cells as the released guide's own fill.sh prints them over the translation 02534d3005dd8a06… (all of the seat's roots in one cut). By AI agents, Wed Nov 11 2026. No macro, syntax, notation, axiom, sorry.
-/
import Derived.Test.YtlfikhblmbidmaaGreatDoorChecked
import GoSem.Claim
import GoSem.ClaimJoined
import GoSem.ClaimMapViews
import Derived.JoinedTies
import Derived.KernelRfl
namespace Go.Proofs.YtlfikhblmbidmaaGreatDoor
/- THE CELL 'sum', in the pinned program and in every row, IS THE sha256 OF THE DUMP (.gsa) THAT YtlfikhblmbidmaaGreatDoorProg.lean LOADS. Nothing in Lean hashes anything: it is a label: what it is worth is what the hold of that sum in a sandbox is worth. -/
noncomputable def Tryz.pinned : Pinned := { name := "ytlfikhblmbidmaagreatdoor", sum := "02534d3005dd8a06b236ac2bd967606437ff04b90742bb7a0f0565aa00caab4c", checked := Tryz.checked }
namespace Rows
def none {H : Type} : Left H := { results := [], args := [] }

/- WHAT THE LISTED PACKAGE-LEVEL VARIABLES READ AS WHEN THE CALL BEGINS. Each datum BY PROGRAM (the guide's laid-datum.mjs) off the statement by which the dump's own 'gosem.cut.vars' lays the variable. In a bare row this is a premise. The card (YtlfikhblmbidmaaGreatDoorCards.lean) ties it to the program's text. -/
def laid_skald_crc_fours {H : Type} : DataW H := .agg [.lit (.int .u32 0), .lit (.int .u32 498536548), .lit (.int .u32 997073096), .lit (.int .u32 651767980), .lit (.int .u32 1994146192), .lit (.int .u32 1802195444), .lit (.int .u32 1303535960), .lit (.int .u32 1342533948), .lit (.int .u32 3988292384), .lit (.int .u32 4027552580), .lit (.int .u32 3604390888), .lit (.int .u32 3412177804), .lit (.int .u32 2607071920), .lit (.int .u32 2262029012), .lit (.int .u32 2685067896), .lit (.int .u32 3183342108)]

/-- 'skaldlaw17.StableRefuses': WHATEVER THE INPUT: true; the input reads as it did. -/
def stableRefusesSpec : ChangeSpec := { name := "stableRefuses", fn := fun _ => fun
  | [d] => { results := [.lit (.bool true)], args := [d] }
  | _ => none }
def stableRefusesRow : OpenClaim := { program := "ytlfikhblmbidmaagreatdoor", sum := "02534d3005dd8a06b236ac2bd967606437ff04b90742bb7a0f0565aa00caab4c", func := "skald/skaldlaw17.StableRefuses", spec := "stableRefuses", inPlace := ["maps.clone"], unfollowed := true, recurses := true, named := ["skald/crc.fours"], apart := false, laid := [("skald/crc.fours", laid_skald_crc_fours)] }
def StableRefusesSaid : Prop := stableRefusesRow.holds Tryz.pinned (OpenSpec.ofChange stableRefusesSpec)

/-- ITS FALSE NEIGHBOUR: 'it returns false'. Refute it at one input. -/
def stableRefusesWrong : ChangeSpec := { name := "stableRefuses", fn := fun _ => fun
  | [d] => { results := [.lit (.bool false)], args := [d] }
  | _ => none }
def StableRefusesWrongFalsely : Prop := stableRefusesRow.holds Tryz.pinned (OpenSpec.ofChange stableRefusesWrong)

/-- 'skaldlaw17.StableRecords': WHATEVER THE INPUT: true; the input reads as it did. -/
def stableRecordsSpec : ChangeSpec := { name := "stableRecords", fn := fun _ => fun
  | [d1, d2, d3, d4] => { results := [.lit (.bool true)], args := [d1, d2, d3, d4] }
  | _ => none }
def stableRecordsRow : OpenClaim := { program := "ytlfikhblmbidmaagreatdoor", sum := "02534d3005dd8a06b236ac2bd967606437ff04b90742bb7a0f0565aa00caab4c", func := "skald/skaldlaw17.StableRecords", spec := "stableRecords", inPlace := ["maps.clone"], unfollowed := true, recurses := true, named := ["skald/crc.fours"], apart := false, laid := [("skald/crc.fours", laid_skald_crc_fours)] }
def StableRecordsSaid : Prop := stableRecordsRow.holds Tryz.pinned (OpenSpec.ofChange stableRecordsSpec)

/-- ITS FALSE NEIGHBOUR: 'it returns false'. Refute it at one input. -/
def stableRecordsWrong : ChangeSpec := { name := "stableRecords", fn := fun _ => fun
  | [d1, d2, d3, d4] => { results := [.lit (.bool false)], args := [d1, d2, d3, d4] }
  | _ => none }
def StableRecordsWrongFalsely : Prop := stableRecordsRow.holds Tryz.pinned (OpenSpec.ofChange stableRecordsWrong)

/-- 'skaldlaw17.StableBack': WHATEVER THE INPUT: true; the input reads as it did. -/
def stableBackSpec : ChangeSpec := { name := "stableBack", fn := fun _ => fun
  | [d1, d2, d3, d4, d5] => { results := [.lit (.bool true)], args := [d1, d2, d3, d4, d5] }
  | _ => none }
def stableBackRow : OpenClaim := { program := "ytlfikhblmbidmaagreatdoor", sum := "02534d3005dd8a06b236ac2bd967606437ff04b90742bb7a0f0565aa00caab4c", func := "skald/skaldlaw17.StableBack", spec := "stableBack", inPlace := ["maps.clone"], unfollowed := true, recurses := true, named := ["skald/crc.fours"], apart := false, laid := [("skald/crc.fours", laid_skald_crc_fours)] }
def StableBackSaid : Prop := stableBackRow.holds Tryz.pinned (OpenSpec.ofChange stableBackSpec)

/-- ITS FALSE NEIGHBOUR: 'it returns false'. Refute it at one input. -/
def stableBackWrong : ChangeSpec := { name := "stableBack", fn := fun _ => fun
  | [d1, d2, d3, d4, d5] => { results := [.lit (.bool false)], args := [d1, d2, d3, d4, d5] }
  | _ => none }
def StableBackWrongFalsely : Prop := stableBackRow.holds Tryz.pinned (OpenSpec.ofChange stableBackWrong)

/-- 'skaldlaw17.StableRecovers': WHATEVER THE INPUT: true; the input reads as it did. -/
def stableRecoversSpec : ChangeSpec := { name := "stableRecovers", fn := fun _ => fun
  | [d1, d2, d3, d4] => { results := [.lit (.bool true)], args := [d1, d2, d3, d4] }
  | _ => none }
def stableRecoversRow : OpenClaim := { program := "ytlfikhblmbidmaagreatdoor", sum := "02534d3005dd8a06b236ac2bd967606437ff04b90742bb7a0f0565aa00caab4c", func := "skald/skaldlaw17.StableRecovers", spec := "stableRecovers", inPlace := ["maps.clone"], unfollowed := true, recurses := true, named := ["skald/crc.fours"], apart := false, laid := [("skald/crc.fours", laid_skald_crc_fours)] }
def StableRecoversSaid : Prop := stableRecoversRow.holds Tryz.pinned (OpenSpec.ofChange stableRecoversSpec)

/-- ITS FALSE NEIGHBOUR: 'it returns false'. Refute it at one input. -/
def stableRecoversWrong : ChangeSpec := { name := "stableRecovers", fn := fun _ => fun
  | [d1, d2, d3, d4] => { results := [.lit (.bool false)], args := [d1, d2, d3, d4] }
  | _ => none }
def StableRecoversWrongFalsely : Prop := stableRecoversRow.holds Tryz.pinned (OpenSpec.ofChange stableRecoversWrong)

/-- 'skaldlaw17.StablePlays': WHATEVER THE INPUT: true; the input reads as it did. -/
def stablePlaysSpec : ChangeSpec := { name := "stablePlays", fn := fun _ => fun
  | [d1, d2] => { results := [.lit (.bool true)], args := [d1, d2] }
  | _ => none }
def stablePlaysRow : OpenClaim := { program := "ytlfikhblmbidmaagreatdoor", sum := "02534d3005dd8a06b236ac2bd967606437ff04b90742bb7a0f0565aa00caab4c", func := "skald/skaldlaw17.StablePlays", spec := "stablePlays", inPlace := ["maps.clone"], unfollowed := true, recurses := true, named := ["skald/crc.fours"], apart := false, laid := [("skald/crc.fours", laid_skald_crc_fours)] }
def StablePlaysSaid : Prop := stablePlaysRow.holds Tryz.pinned (OpenSpec.ofChange stablePlaysSpec)

/-- ITS FALSE NEIGHBOUR: 'it returns false'. Refute it at one input. -/
def stablePlaysWrong : ChangeSpec := { name := "stablePlays", fn := fun _ => fun
  | [d1, d2] => { results := [.lit (.bool false)], args := [d1, d2] }
  | _ => none }
def StablePlaysWrongFalsely : Prop := stablePlaysRow.holds Tryz.pinned (OpenSpec.ofChange stablePlaysWrong)

/-- 'skaldlaw17.StableLong': WHATEVER THE INPUT: true; the input reads as it did. -/
def stableLongSpec : ChangeSpec := { name := "stableLong", fn := fun _ => fun
  | [d] => { results := [.lit (.bool true)], args := [d] }
  | _ => none }
def stableLongRow : OpenClaim := { program := "ytlfikhblmbidmaagreatdoor", sum := "02534d3005dd8a06b236ac2bd967606437ff04b90742bb7a0f0565aa00caab4c", func := "skald/skaldlaw17.StableLong", spec := "stableLong", inPlace := ["internal/abi.NoEscape", "internal/bytealg.MakeNoZero", "maps.clone"], unfollowed := true, recurses := true, named := ["skald/crc.fours"], apart := false, laid := [("skald/crc.fours", laid_skald_crc_fours)] }
def StableLongSaid : Prop := stableLongRow.holds Tryz.pinned (OpenSpec.ofChange stableLongSpec)

/-- ITS FALSE NEIGHBOUR: 'it returns false'. Refute it at one input. -/
def stableLongWrong : ChangeSpec := { name := "stableLong", fn := fun _ => fun
  | [d] => { results := [.lit (.bool false)], args := [d] }
  | _ => none }
def StableLongWrongFalsely : Prop := stableLongRow.holds Tryz.pinned (OpenSpec.ofChange stableLongWrong)

/-- 'skaldlaw17.StableKeeps': WHATEVER THE INPUT: true; the input reads as it did. -/
def stableKeepsSpec : ChangeSpec := { name := "stableKeeps", fn := fun _ => fun
  | [d1, d2, d3] => { results := [.lit (.bool true)], args := [d1, d2, d3] }
  | _ => none }
def stableKeepsRow : OpenClaim := { program := "ytlfikhblmbidmaagreatdoor", sum := "02534d3005dd8a06b236ac2bd967606437ff04b90742bb7a0f0565aa00caab4c", func := "skald/skaldlaw17.StableKeeps", spec := "stableKeeps", inPlace := ["internal/abi.NoEscape", "internal/bytealg.MakeNoZero", "maps.clone"], unfollowed := true, recurses := true, named := ["skald/crc.fours"], apart := false, laid := [("skald/crc.fours", laid_skald_crc_fours)] }
def StableKeepsSaid : Prop := stableKeepsRow.holds Tryz.pinned (OpenSpec.ofChange stableKeepsSpec)

/-- ITS FALSE NEIGHBOUR: 'it returns false'. Refute it at one input. -/
def stableKeepsWrong : ChangeSpec := { name := "stableKeeps", fn := fun _ => fun
  | [d1, d2, d3] => { results := [.lit (.bool false)], args := [d1, d2, d3] }
  | _ => none }
def StableKeepsWrongFalsely : Prop := stableKeepsRow.holds Tryz.pinned (OpenSpec.ofChange stableKeepsWrong)

/-- 'skaldlaw17.StableCompacts': WHATEVER THE INPUT: true; the input reads as it did. -/
def stableCompactsSpec : ChangeSpec := { name := "stableCompacts", fn := fun _ => fun
  | [d1, d2, d3] => { results := [.lit (.bool true)], args := [d1, d2, d3] }
  | _ => none }
def stableCompactsRow : OpenClaim := { program := "ytlfikhblmbidmaagreatdoor", sum := "02534d3005dd8a06b236ac2bd967606437ff04b90742bb7a0f0565aa00caab4c", func := "skald/skaldlaw17.StableCompacts", spec := "stableCompacts", inPlace := ["internal/abi.NoEscape", "internal/bytealg.MakeNoZero", "maps.clone"], unfollowed := true, recurses := true, named := ["skald/crc.fours"], apart := false, laid := [("skald/crc.fours", laid_skald_crc_fours)] }
def StableCompactsSaid : Prop := stableCompactsRow.holds Tryz.pinned (OpenSpec.ofChange stableCompactsSpec)

/-- ITS FALSE NEIGHBOUR: 'it returns false'. Refute it at one input. -/
def stableCompactsWrong : ChangeSpec := { name := "stableCompacts", fn := fun _ => fun
  | [d1, d2, d3] => { results := [.lit (.bool false)], args := [d1, d2, d3] }
  | _ => none }
def StableCompactsWrongFalsely : Prop := stableCompactsRow.holds Tryz.pinned (OpenSpec.ofChange stableCompactsWrong)

/- THE SECOND FORM. 'bulk': how many values and letters a reading holds, each counted each time it is reached (what is shared counts as often as it is met; a slice's spare places count too). A statement '..UptoSaid' is the law's where the arguments, and the package variables that the reading takes, are together of bulk at most 1048576: NARROWER than '..Said'. Prove '..Said' where nothing that the law and all that it calls make is longer than what came in: it says more and counts as full. Else prove '..UptoSaid'. A law counts once. -/
mutual
def uptoBulk {H : Type} : DataW H → Nat
  | .lit (.string bytes) => bytes.length + 1
  | .lit _ => 1
  | .nil => 1
  | .ptr d => uptoBulk d + 1
  | .slice elems spare => uptoBulkAll elems + uptoBulkAll spare + 1
  | .agg parts => uptoBulkAll parts + 1
  | .iface _ d => uptoBulk d + 1
  | .map entries => uptoBulkEntries entries + 1
  | .held _ => 1
def uptoBulkAll {H : Type} : List (DataW H) → Nat
  | [] => 0
  | d :: r => uptoBulk d + uptoBulkAll r
def uptoBulkEntries {H : Type} : List (Lit × DataW H) → Nat
  | [] => 0
  | x :: r => uptoBulkEntry x + uptoBulkEntries r
def uptoBulkEntry {H : Type} : Lit × DataW H → Nat
  | (.string bytes, d) => bytes.length + uptoBulk d + 1
  | (_, d) => uptoBulk d + 1
 end
def uptoSmall : (H : Type) → List (DataW H) → Bool := fun _ ds => decide (uptoBulkAll ds ≤ 1048576)
def OpenSpec.upto (s : _root_.Go.ChangeSpec) : _root_.Go.OpenSpec := { _root_.Go.OpenSpec.ofChange s with cond := some uptoSmall }

/-- 'skaldlaw17.StableRefuses', WHERE WHAT IT READS IS OF BULK AT MOST 1048576: true; the input reads as it did. -/
def stableRefusesUptoRow : OpenClaim := { program := "ytlfikhblmbidmaagreatdoor", sum := "02534d3005dd8a06b236ac2bd967606437ff04b90742bb7a0f0565aa00caab4c", func := "skald/skaldlaw17.StableRefuses", spec := "stableRefuses", inPlace := ["maps.clone"], unfollowed := true, recurses := true, named := ["skald/crc.fours"], apart := false, laid := [("skald/crc.fours", laid_skald_crc_fours)], narrowed := true }
def StableRefusesUptoSaid : Prop := stableRefusesUptoRow.holds Tryz.pinned (OpenSpec.upto stableRefusesSpec)

/-- 'skaldlaw17.StableRecords', WHERE WHAT IT READS IS OF BULK AT MOST 1048576: true; the input reads as it did. -/
def stableRecordsUptoRow : OpenClaim := { program := "ytlfikhblmbidmaagreatdoor", sum := "02534d3005dd8a06b236ac2bd967606437ff04b90742bb7a0f0565aa00caab4c", func := "skald/skaldlaw17.StableRecords", spec := "stableRecords", inPlace := ["maps.clone"], unfollowed := true, recurses := true, named := ["skald/crc.fours"], apart := false, laid := [("skald/crc.fours", laid_skald_crc_fours)], narrowed := true }
def StableRecordsUptoSaid : Prop := stableRecordsUptoRow.holds Tryz.pinned (OpenSpec.upto stableRecordsSpec)

/-- 'skaldlaw17.StableBack', WHERE WHAT IT READS IS OF BULK AT MOST 1048576: true; the input reads as it did. -/
def stableBackUptoRow : OpenClaim := { program := "ytlfikhblmbidmaagreatdoor", sum := "02534d3005dd8a06b236ac2bd967606437ff04b90742bb7a0f0565aa00caab4c", func := "skald/skaldlaw17.StableBack", spec := "stableBack", inPlace := ["maps.clone"], unfollowed := true, recurses := true, named := ["skald/crc.fours"], apart := false, laid := [("skald/crc.fours", laid_skald_crc_fours)], narrowed := true }
def StableBackUptoSaid : Prop := stableBackUptoRow.holds Tryz.pinned (OpenSpec.upto stableBackSpec)

/-- 'skaldlaw17.StableRecovers', WHERE WHAT IT READS IS OF BULK AT MOST 1048576: true; the input reads as it did. -/
def stableRecoversUptoRow : OpenClaim := { program := "ytlfikhblmbidmaagreatdoor", sum := "02534d3005dd8a06b236ac2bd967606437ff04b90742bb7a0f0565aa00caab4c", func := "skald/skaldlaw17.StableRecovers", spec := "stableRecovers", inPlace := ["maps.clone"], unfollowed := true, recurses := true, named := ["skald/crc.fours"], apart := false, laid := [("skald/crc.fours", laid_skald_crc_fours)], narrowed := true }
def StableRecoversUptoSaid : Prop := stableRecoversUptoRow.holds Tryz.pinned (OpenSpec.upto stableRecoversSpec)

/-- 'skaldlaw17.StablePlays', WHERE WHAT IT READS IS OF BULK AT MOST 1048576: true; the input reads as it did. -/
def stablePlaysUptoRow : OpenClaim := { program := "ytlfikhblmbidmaagreatdoor", sum := "02534d3005dd8a06b236ac2bd967606437ff04b90742bb7a0f0565aa00caab4c", func := "skald/skaldlaw17.StablePlays", spec := "stablePlays", inPlace := ["maps.clone"], unfollowed := true, recurses := true, named := ["skald/crc.fours"], apart := false, laid := [("skald/crc.fours", laid_skald_crc_fours)], narrowed := true }
def StablePlaysUptoSaid : Prop := stablePlaysUptoRow.holds Tryz.pinned (OpenSpec.upto stablePlaysSpec)

/-- 'skaldlaw17.StableLong', WHERE WHAT IT READS IS OF BULK AT MOST 1048576: true; the input reads as it did. -/
def stableLongUptoRow : OpenClaim := { program := "ytlfikhblmbidmaagreatdoor", sum := "02534d3005dd8a06b236ac2bd967606437ff04b90742bb7a0f0565aa00caab4c", func := "skald/skaldlaw17.StableLong", spec := "stableLong", inPlace := ["internal/abi.NoEscape", "internal/bytealg.MakeNoZero", "maps.clone"], unfollowed := true, recurses := true, named := ["skald/crc.fours"], apart := false, laid := [("skald/crc.fours", laid_skald_crc_fours)], narrowed := true }
def StableLongUptoSaid : Prop := stableLongUptoRow.holds Tryz.pinned (OpenSpec.upto stableLongSpec)

/-- 'skaldlaw17.StableKeeps', WHERE WHAT IT READS IS OF BULK AT MOST 1048576: true; the input reads as it did. -/
def stableKeepsUptoRow : OpenClaim := { program := "ytlfikhblmbidmaagreatdoor", sum := "02534d3005dd8a06b236ac2bd967606437ff04b90742bb7a0f0565aa00caab4c", func := "skald/skaldlaw17.StableKeeps", spec := "stableKeeps", inPlace := ["internal/abi.NoEscape", "internal/bytealg.MakeNoZero", "maps.clone"], unfollowed := true, recurses := true, named := ["skald/crc.fours"], apart := false, laid := [("skald/crc.fours", laid_skald_crc_fours)], narrowed := true }
def StableKeepsUptoSaid : Prop := stableKeepsUptoRow.holds Tryz.pinned (OpenSpec.upto stableKeepsSpec)

/-- 'skaldlaw17.StableCompacts', WHERE WHAT IT READS IS OF BULK AT MOST 1048576: true; the input reads as it did. -/
def stableCompactsUptoRow : OpenClaim := { program := "ytlfikhblmbidmaagreatdoor", sum := "02534d3005dd8a06b236ac2bd967606437ff04b90742bb7a0f0565aa00caab4c", func := "skald/skaldlaw17.StableCompacts", spec := "stableCompacts", inPlace := ["internal/abi.NoEscape", "internal/bytealg.MakeNoZero", "maps.clone"], unfollowed := true, recurses := true, named := ["skald/crc.fours"], apart := false, laid := [("skald/crc.fours", laid_skald_crc_fours)], narrowed := true }
def StableCompactsUptoSaid : Prop := stableCompactsUptoRow.holds Tryz.pinned (OpenSpec.upto stableCompactsSpec)

end Rows
end Go.Proofs.YtlfikhblmbidmaaGreatDoor
