/-
  No cell of these rows narrows 'for every input' (looked for: loops, veiled, ifaces, maps, wideKeys, modest, calm, conditions, laid).
  DERIVED. THE GIVEN ROWS OF THIS SEAT. 9 by the template 'for every input the law returns true; each argument reads behind the call as it read before'; 0 by the template 'total and deterministic' (their statements: YtnbiihnfggcakaaTotals.lean).
  GIVEN WITH THE SEED: the statements are not yours to turn. If you find one false, say at which input.
  Laid BY PROGRAM, IN A SANDBOX (cutbox-rows.mjs): the forced cells as the released guide's own fill.sh prints them over the translation 02292db25ccc9ee7… (all of the seat's roots in one cut). By AI agents, Wed Nov 11 2026. No macro, syntax, notation, axiom, sorry.
-/
import Derived.Test.YtnbiihnfggcakaaChecked
import GoSem.Claim
import GoSem.ClaimJoined
import GoSem.ClaimMapViews
import Derived.JoinedTies
import Derived.KernelRfl
namespace Go.Proofs.Ytnbiihnfggcakaa
/- THE CELL 'sum', in the pinned program and in every row, IS THE sha256 OF THE DUMP (.gsa) THAT YtnbiihnfggcakaaProg.lean LOADS. Nothing in Lean hashes anything: it is a label: what it is worth is what the hold of that sum in a sandbox is worth. -/
noncomputable def Try.pinned : Pinned := { name := "ytnbiihnfggcakaa", sum := "02292db25ccc9ee7725ed1c917165b6435d2bb44f76065afc2c522d7b70e9e02", checked := Try.checked }
namespace Rows
def none {H : Type} : Left H := { results := [], args := [] }

/-- 'skaldlaw12.AcceptGrows': WHATEVER THE INPUT: true; the input reads as it did. -/
def acceptGrowsSpec : ChangeSpec := { name := "acceptGrows", fn := fun _ => fun
  | [d] => { results := [.lit (.bool true)], args := [d] }
  | _ => none }
def acceptGrowsRow : OpenClaim := { program := "ytnbiihnfggcakaa", sum := "02292db25ccc9ee7725ed1c917165b6435d2bb44f76065afc2c522d7b70e9e02", func := "skald/skaldlaw12.AcceptGrows", spec := "acceptGrows", unfollowed := true, recurses := true, apart := false }
def AcceptGrowsSaid : Prop := acceptGrowsRow.holds Try.pinned (OpenSpec.ofChange acceptGrowsSpec)

/-- ITS FALSE NEIGHBOUR: 'it returns false'. Refute it at one input. -/
def acceptGrowsWrong : ChangeSpec := { name := "acceptGrows", fn := fun _ => fun
  | [d] => { results := [.lit (.bool false)], args := [d] }
  | _ => none }
def AcceptGrowsWrongFalsely : Prop := acceptGrowsRow.holds Try.pinned (OpenSpec.ofChange acceptGrowsWrong)

/-- 'skaldlaw12.AcceptKnown': WHATEVER THE INPUT: true; the input reads as it did. -/
def acceptKnownSpec : ChangeSpec := { name := "acceptKnown", fn := fun _ => fun
  | [] => { results := [.lit (.bool true)], args := [] }
  | _ => none }
def acceptKnownRow : OpenClaim := { program := "ytnbiihnfggcakaa", sum := "02292db25ccc9ee7725ed1c917165b6435d2bb44f76065afc2c522d7b70e9e02", func := "skald/skaldlaw12.AcceptKnown", spec := "acceptKnown", unfollowed := true, recurses := true, apart := false }
def AcceptKnownSaid : Prop := acceptKnownRow.holds Try.pinned (OpenSpec.ofChange acceptKnownSpec)

/-- ITS FALSE NEIGHBOUR: 'it returns false'. Refute it at one input. -/
def acceptKnownWrong : ChangeSpec := { name := "acceptKnown", fn := fun _ => fun
  | [] => { results := [.lit (.bool false)], args := [] }
  | _ => none }
def AcceptKnownWrongFalsely : Prop := acceptKnownRow.holds Try.pinned (OpenSpec.ofChange acceptKnownWrong)

/-- 'skaldlaw12.AcceptPlays': WHATEVER THE INPUT: true; the input reads as it did. -/
def acceptPlaysSpec : ChangeSpec := { name := "acceptPlays", fn := fun _ => fun
  | [d1, d2, d3] => { results := [.lit (.bool true)], args := [d1, d2, d3] }
  | _ => none }
def acceptPlaysRow : OpenClaim := { program := "ytnbiihnfggcakaa", sum := "02292db25ccc9ee7725ed1c917165b6435d2bb44f76065afc2c522d7b70e9e02", func := "skald/skaldlaw12.AcceptPlays", spec := "acceptPlays", inPlace := ["maps.clone"], unfollowed := true, recurses := true, apart := false }
def AcceptPlaysSaid : Prop := acceptPlaysRow.holds Try.pinned (OpenSpec.ofChange acceptPlaysSpec)

/-- ITS FALSE NEIGHBOUR: 'it returns false'. Refute it at one input. -/
def acceptPlaysWrong : ChangeSpec := { name := "acceptPlays", fn := fun _ => fun
  | [d1, d2, d3] => { results := [.lit (.bool false)], args := [d1, d2, d3] }
  | _ => none }
def AcceptPlaysWrongFalsely : Prop := acceptPlaysRow.holds Try.pinned (OpenSpec.ofChange acceptPlaysWrong)

/-- 'skaldlaw12.AcceptNil': WHATEVER THE INPUT: true; the input reads as it did. -/
def acceptNilSpec : ChangeSpec := { name := "acceptNil", fn := fun _ => fun
  | [d] => { results := [.lit (.bool true)], args := [d] }
  | _ => none }
def acceptNilRow : OpenClaim := { program := "ytnbiihnfggcakaa", sum := "02292db25ccc9ee7725ed1c917165b6435d2bb44f76065afc2c522d7b70e9e02", func := "skald/skaldlaw12.AcceptNil", spec := "acceptNil", inPlace := ["maps.clone"], unfollowed := true, recurses := true, apart := false }
def AcceptNilSaid : Prop := acceptNilRow.holds Try.pinned (OpenSpec.ofChange acceptNilSpec)

/-- ITS FALSE NEIGHBOUR: 'it returns false'. Refute it at one input. -/
def acceptNilWrong : ChangeSpec := { name := "acceptNil", fn := fun _ => fun
  | [d] => { results := [.lit (.bool false)], args := [d] }
  | _ => none }
def AcceptNilWrongFalsely : Prop := acceptNilRow.holds Try.pinned (OpenSpec.ofChange acceptNilWrong)

/-- 'skaldlaw12.AcceptTells': WHATEVER THE INPUT: true; the input reads as it did. -/
def acceptTellsSpec : ChangeSpec := { name := "acceptTells", fn := fun _ => fun
  | [d1, d2, d3, d4] => { results := [.lit (.bool true)], args := [d1, d2, d3, d4] }
  | _ => none }
def acceptTellsRow : OpenClaim := { program := "ytnbiihnfggcakaa", sum := "02292db25ccc9ee7725ed1c917165b6435d2bb44f76065afc2c522d7b70e9e02", func := "skald/skaldlaw12.AcceptTells", spec := "acceptTells", inPlace := ["maps.clone"], unfollowed := true, recurses := true, apart := false }
def AcceptTellsSaid : Prop := acceptTellsRow.holds Try.pinned (OpenSpec.ofChange acceptTellsSpec)

/-- ITS FALSE NEIGHBOUR: 'it returns false'. Refute it at one input. -/
def acceptTellsWrong : ChangeSpec := { name := "acceptTells", fn := fun _ => fun
  | [d1, d2, d3, d4] => { results := [.lit (.bool false)], args := [d1, d2, d3, d4] }
  | _ => none }
def AcceptTellsWrongFalsely : Prop := acceptTellsRow.holds Try.pinned (OpenSpec.ofChange acceptTellsWrong)

/-- 'skaldlaw12.AcceptOne': WHATEVER THE INPUT: true; the input reads as it did. -/
def acceptOneSpec : ChangeSpec := { name := "acceptOne", fn := fun _ => fun
  | [d1, d2] => { results := [.lit (.bool true)], args := [d1, d2] }
  | _ => none }
def acceptOneRow : OpenClaim := { program := "ytnbiihnfggcakaa", sum := "02292db25ccc9ee7725ed1c917165b6435d2bb44f76065afc2c522d7b70e9e02", func := "skald/skaldlaw12.AcceptOne", spec := "acceptOne", inPlace := ["maps.clone"], unfollowed := true, recurses := true, apart := false }
def AcceptOneSaid : Prop := acceptOneRow.holds Try.pinned (OpenSpec.ofChange acceptOneSpec)

/-- ITS FALSE NEIGHBOUR: 'it returns false'. Refute it at one input. -/
def acceptOneWrong : ChangeSpec := { name := "acceptOne", fn := fun _ => fun
  | [d1, d2] => { results := [.lit (.bool false)], args := [d1, d2] }
  | _ => none }
def AcceptOneWrongFalsely : Prop := acceptOneRow.holds Try.pinned (OpenSpec.ofChange acceptOneWrong)

/-- 'skaldlaw12.AcceptForgets': WHATEVER THE INPUT: true; the input reads as it did. -/
def acceptForgetsSpec : ChangeSpec := { name := "acceptForgets", fn := fun _ => fun
  | [d1, d2] => { results := [.lit (.bool true)], args := [d1, d2] }
  | _ => none }
def acceptForgetsRow : OpenClaim := { program := "ytnbiihnfggcakaa", sum := "02292db25ccc9ee7725ed1c917165b6435d2bb44f76065afc2c522d7b70e9e02", func := "skald/skaldlaw12.AcceptForgets", spec := "acceptForgets", inPlace := ["maps.clone"], unfollowed := true, recurses := true, apart := false }
def AcceptForgetsSaid : Prop := acceptForgetsRow.holds Try.pinned (OpenSpec.ofChange acceptForgetsSpec)

/-- ITS FALSE NEIGHBOUR: 'it returns false'. Refute it at one input. -/
def acceptForgetsWrong : ChangeSpec := { name := "acceptForgets", fn := fun _ => fun
  | [d1, d2] => { results := [.lit (.bool false)], args := [d1, d2] }
  | _ => none }
def AcceptForgetsWrongFalsely : Prop := acceptForgetsRow.holds Try.pinned (OpenSpec.ofChange acceptForgetsWrong)

/-- 'skaldlaw12.AcceptCopies': WHATEVER THE INPUT: true; the input reads as it did. -/
def acceptCopiesSpec : ChangeSpec := { name := "acceptCopies", fn := fun _ => fun
  | [d1, d2] => { results := [.lit (.bool true)], args := [d1, d2] }
  | _ => none }
def acceptCopiesRow : OpenClaim := { program := "ytnbiihnfggcakaa", sum := "02292db25ccc9ee7725ed1c917165b6435d2bb44f76065afc2c522d7b70e9e02", func := "skald/skaldlaw12.AcceptCopies", spec := "acceptCopies", inPlace := ["maps.clone"], unfollowed := true, recurses := true, apart := false }
def AcceptCopiesSaid : Prop := acceptCopiesRow.holds Try.pinned (OpenSpec.ofChange acceptCopiesSpec)

/-- ITS FALSE NEIGHBOUR: 'it returns false'. Refute it at one input. -/
def acceptCopiesWrong : ChangeSpec := { name := "acceptCopies", fn := fun _ => fun
  | [d1, d2] => { results := [.lit (.bool false)], args := [d1, d2] }
  | _ => none }
def AcceptCopiesWrongFalsely : Prop := acceptCopiesRow.holds Try.pinned (OpenSpec.ofChange acceptCopiesWrong)

/-- 'skaldlaw12.AcceptAgrees': WHATEVER THE INPUT: true; the input reads as it did. -/
def acceptAgreesSpec : ChangeSpec := { name := "acceptAgrees", fn := fun _ => fun
  | [d1, d2] => { results := [.lit (.bool true)], args := [d1, d2] }
  | _ => none }
def acceptAgreesRow : OpenClaim := { program := "ytnbiihnfggcakaa", sum := "02292db25ccc9ee7725ed1c917165b6435d2bb44f76065afc2c522d7b70e9e02", func := "skald/skaldlaw12.AcceptAgrees", spec := "acceptAgrees", unfollowed := true, recurses := true, apart := false }
def AcceptAgreesSaid : Prop := acceptAgreesRow.holds Try.pinned (OpenSpec.ofChange acceptAgreesSpec)

/-- ITS FALSE NEIGHBOUR: 'it returns false'. Refute it at one input. -/
def acceptAgreesWrong : ChangeSpec := { name := "acceptAgrees", fn := fun _ => fun
  | [d1, d2] => { results := [.lit (.bool false)], args := [d1, d2] }
  | _ => none }
def AcceptAgreesWrongFalsely : Prop := acceptAgreesRow.holds Try.pinned (OpenSpec.ofChange acceptAgreesWrong)

/- THE SECOND FORM. 'bulk': how many values and letters a reading holds, each counted each time it is reached (what is shared counts as often as it is met; a slice's spare places count too). A statement '..UptoSaid' is the law's where the arguments, and the package variables that the reading takes, are together of bulk at most 1048576: NARROWER than '..Said'. Prove '..Said' where nothing that the law and all that it calls make is longer than what came in: it says more and counts as full. Else prove '..UptoSaid'. A law counts once. -/
mutual
def uptoBulk {H : Type} : DataW H → Nat
  | .lit (.string bytes) => bytes.length + 1
  | .lit _ => 1
  | .nil => 1
  | .ptr d => uptoBulk d + 1
  | .slice elems spare => uptoBulkAll elems + uptoBulkAll spare + 1
  | .agg parts => uptoBulkAll parts + 1
  | .iface _ d => uptoBulk d + 1
  | .map entries => uptoBulkEntries entries + 1
  | .held _ => 1
def uptoBulkAll {H : Type} : List (DataW H) → Nat
  | [] => 0
  | d :: r => uptoBulk d + uptoBulkAll r
def uptoBulkEntries {H : Type} : List (Lit × DataW H) → Nat
  | [] => 0
  | x :: r => uptoBulkEntry x + uptoBulkEntries r
def uptoBulkEntry {H : Type} : Lit × DataW H → Nat
  | (.string bytes, d) => bytes.length + uptoBulk d + 1
  | (_, d) => uptoBulk d + 1
 end
def uptoSmall : (H : Type) → List (DataW H) → Bool := fun _ ds => decide (uptoBulkAll ds ≤ 1048576)
def OpenSpec.upto (s : _root_.Go.ChangeSpec) : _root_.Go.OpenSpec := { _root_.Go.OpenSpec.ofChange s with cond := some uptoSmall }

/-- 'skaldlaw12.AcceptGrows', WHERE WHAT IT READS IS OF BULK AT MOST 1048576: true; the input reads as it did. -/
def acceptGrowsUptoRow : OpenClaim := { program := "ytnbiihnfggcakaa", sum := "02292db25ccc9ee7725ed1c917165b6435d2bb44f76065afc2c522d7b70e9e02", func := "skald/skaldlaw12.AcceptGrows", spec := "acceptGrows", unfollowed := true, recurses := true, apart := false, narrowed := true }
def AcceptGrowsUptoSaid : Prop := acceptGrowsUptoRow.holds Try.pinned (OpenSpec.upto acceptGrowsSpec)

/-- 'skaldlaw12.AcceptKnown', WHERE WHAT IT READS IS OF BULK AT MOST 1048576: true; the input reads as it did. -/
def acceptKnownUptoRow : OpenClaim := { program := "ytnbiihnfggcakaa", sum := "02292db25ccc9ee7725ed1c917165b6435d2bb44f76065afc2c522d7b70e9e02", func := "skald/skaldlaw12.AcceptKnown", spec := "acceptKnown", unfollowed := true, recurses := true, apart := false, narrowed := true }
def AcceptKnownUptoSaid : Prop := acceptKnownUptoRow.holds Try.pinned (OpenSpec.upto acceptKnownSpec)

/-- 'skaldlaw12.AcceptPlays', WHERE WHAT IT READS IS OF BULK AT MOST 1048576: true; the input reads as it did. -/
def acceptPlaysUptoRow : OpenClaim := { program := "ytnbiihnfggcakaa", sum := "02292db25ccc9ee7725ed1c917165b6435d2bb44f76065afc2c522d7b70e9e02", func := "skald/skaldlaw12.AcceptPlays", spec := "acceptPlays", inPlace := ["maps.clone"], unfollowed := true, recurses := true, apart := false, narrowed := true }
def AcceptPlaysUptoSaid : Prop := acceptPlaysUptoRow.holds Try.pinned (OpenSpec.upto acceptPlaysSpec)

/-- 'skaldlaw12.AcceptNil', WHERE WHAT IT READS IS OF BULK AT MOST 1048576: true; the input reads as it did. -/
def acceptNilUptoRow : OpenClaim := { program := "ytnbiihnfggcakaa", sum := "02292db25ccc9ee7725ed1c917165b6435d2bb44f76065afc2c522d7b70e9e02", func := "skald/skaldlaw12.AcceptNil", spec := "acceptNil", inPlace := ["maps.clone"], unfollowed := true, recurses := true, apart := false, narrowed := true }
def AcceptNilUptoSaid : Prop := acceptNilUptoRow.holds Try.pinned (OpenSpec.upto acceptNilSpec)

/-- 'skaldlaw12.AcceptTells', WHERE WHAT IT READS IS OF BULK AT MOST 1048576: true; the input reads as it did. -/
def acceptTellsUptoRow : OpenClaim := { program := "ytnbiihnfggcakaa", sum := "02292db25ccc9ee7725ed1c917165b6435d2bb44f76065afc2c522d7b70e9e02", func := "skald/skaldlaw12.AcceptTells", spec := "acceptTells", inPlace := ["maps.clone"], unfollowed := true, recurses := true, apart := false, narrowed := true }
def AcceptTellsUptoSaid : Prop := acceptTellsUptoRow.holds Try.pinned (OpenSpec.upto acceptTellsSpec)

/-- 'skaldlaw12.AcceptOne', WHERE WHAT IT READS IS OF BULK AT MOST 1048576: true; the input reads as it did. -/
def acceptOneUptoRow : OpenClaim := { program := "ytnbiihnfggcakaa", sum := "02292db25ccc9ee7725ed1c917165b6435d2bb44f76065afc2c522d7b70e9e02", func := "skald/skaldlaw12.AcceptOne", spec := "acceptOne", inPlace := ["maps.clone"], unfollowed := true, recurses := true, apart := false, narrowed := true }
def AcceptOneUptoSaid : Prop := acceptOneUptoRow.holds Try.pinned (OpenSpec.upto acceptOneSpec)

/-- 'skaldlaw12.AcceptForgets', WHERE WHAT IT READS IS OF BULK AT MOST 1048576: true; the input reads as it did. -/
def acceptForgetsUptoRow : OpenClaim := { program := "ytnbiihnfggcakaa", sum := "02292db25ccc9ee7725ed1c917165b6435d2bb44f76065afc2c522d7b70e9e02", func := "skald/skaldlaw12.AcceptForgets", spec := "acceptForgets", inPlace := ["maps.clone"], unfollowed := true, recurses := true, apart := false, narrowed := true }
def AcceptForgetsUptoSaid : Prop := acceptForgetsUptoRow.holds Try.pinned (OpenSpec.upto acceptForgetsSpec)

/-- 'skaldlaw12.AcceptCopies', WHERE WHAT IT READS IS OF BULK AT MOST 1048576: true; the input reads as it did. -/
def acceptCopiesUptoRow : OpenClaim := { program := "ytnbiihnfggcakaa", sum := "02292db25ccc9ee7725ed1c917165b6435d2bb44f76065afc2c522d7b70e9e02", func := "skald/skaldlaw12.AcceptCopies", spec := "acceptCopies", inPlace := ["maps.clone"], unfollowed := true, recurses := true, apart := false, narrowed := true }
def AcceptCopiesUptoSaid : Prop := acceptCopiesUptoRow.holds Try.pinned (OpenSpec.upto acceptCopiesSpec)

/-- 'skaldlaw12.AcceptAgrees', WHERE WHAT IT READS IS OF BULK AT MOST 1048576: true; the input reads as it did. -/
def acceptAgreesUptoRow : OpenClaim := { program := "ytnbiihnfggcakaa", sum := "02292db25ccc9ee7725ed1c917165b6435d2bb44f76065afc2c522d7b70e9e02", func := "skald/skaldlaw12.AcceptAgrees", spec := "acceptAgrees", unfollowed := true, recurses := true, apart := false, narrowed := true }
def AcceptAgreesUptoSaid : Prop := acceptAgreesUptoRow.holds Try.pinned (OpenSpec.upto acceptAgreesSpec)

end Rows
end Go.Proofs.Ytnbiihnfggcakaa
