/-
  No cell of these rows narrows 'for every input' (looked for: loops, veiled, ifaces, maps, wideKeys, modest, calm, conditions, laid).
  DERIVED. THE GIVEN ROWS OF THIS SEAT. 8 by the template 'for every input the law returns true; each argument reads behind the call as it read before'; 0 by the template 'total and deterministic' (their statements: YtklfbngmakkefaaTotals.lean).
  GIVEN WITH THE SEED: the statements are not yours to turn. If you find one false, say at which input.
  Laid BY PROGRAM, IN A SANDBOX (cutbox-rows.mjs): the forced cells as the released guide's own fill.sh prints them over the translation 95ec3828e36e8cd0… (all of the seat's roots in one cut). By AI agents, Wed Nov 11 2026. No macro, syntax, notation, axiom, sorry.
-/
import Derived.Test.YtklfbngmakkefaaChecked
import GoSem.Claim
import GoSem.ClaimJoined
import GoSem.ClaimMapViews
import Derived.JoinedTies
import Derived.KernelRfl
namespace Go.Proofs.Ytklfbngmakkefaa
/- THE CELL 'sum', in the pinned program and in every row, IS THE sha256 OF THE DUMP (.gsa) THAT YtklfbngmakkefaaProg.lean LOADS. Nothing in Lean hashes anything: it is a label: what it is worth is what the hold of that sum in a sandbox is worth. -/
noncomputable def Try.pinned : Pinned := { name := "ytklfbngmakkefaa", sum := "95ec3828e36e8cd0229d004dbdf2afb3137e3e584de04e5b7bcd2b593da41da7", checked := Try.checked }
namespace Rows
def none {H : Type} : Left H := { results := [], args := [] }

/-- 'skaldlaw21.ElectWaits': WHATEVER THE INPUT: true; the input reads as it did. -/
def electWaitsSpec : ChangeSpec := { name := "electWaits", fn := fun _ => fun
  | [d1, d2, d3] => { results := [.lit (.bool true)], args := [d1, d2, d3] }
  | _ => none }
def electWaitsRow : OpenClaim := { program := "ytklfbngmakkefaa", sum := "95ec3828e36e8cd0229d004dbdf2afb3137e3e584de04e5b7bcd2b593da41da7", func := "skald/skaldlaw21.ElectWaits", spec := "electWaits", unfollowed := true, recurses := true, apart := false }
def ElectWaitsSaid : Prop := electWaitsRow.holds Try.pinned (OpenSpec.ofChange electWaitsSpec)

/-- ITS FALSE NEIGHBOUR: 'it returns false'. Refute it at one input. -/
def electWaitsWrong : ChangeSpec := { name := "electWaits", fn := fun _ => fun
  | [d1, d2, d3] => { results := [.lit (.bool false)], args := [d1, d2, d3] }
  | _ => none }
def ElectWaitsWrongFalsely : Prop := electWaitsRow.holds Try.pinned (OpenSpec.ofChange electWaitsWrong)

/-- 'skaldlaw21.ElectGroups': WHATEVER THE INPUT: true; the input reads as it did. -/
def electGroupsSpec : ChangeSpec := { name := "electGroups", fn := fun _ => fun
  | [d] => { results := [.lit (.bool true)], args := [d] }
  | _ => none }
def electGroupsRow : OpenClaim := { program := "ytklfbngmakkefaa", sum := "95ec3828e36e8cd0229d004dbdf2afb3137e3e584de04e5b7bcd2b593da41da7", func := "skald/skaldlaw21.ElectGroups", spec := "electGroups", unfollowed := true, recurses := true, apart := false }
def ElectGroupsSaid : Prop := electGroupsRow.holds Try.pinned (OpenSpec.ofChange electGroupsSpec)

/-- ITS FALSE NEIGHBOUR: 'it returns false'. Refute it at one input. -/
def electGroupsWrong : ChangeSpec := { name := "electGroups", fn := fun _ => fun
  | [d] => { results := [.lit (.bool false)], args := [d] }
  | _ => none }
def ElectGroupsWrongFalsely : Prop := electGroupsRow.holds Try.pinned (OpenSpec.ofChange electGroupsWrong)

/-- 'skaldlaw21.ElectOrders': WHATEVER THE INPUT: true; the input reads as it did. -/
def electOrdersSpec : ChangeSpec := { name := "electOrders", fn := fun _ => fun
  | [d1, d2, d3] => { results := [.lit (.bool true)], args := [d1, d2, d3] }
  | _ => none }
def electOrdersRow : OpenClaim := { program := "ytklfbngmakkefaa", sum := "95ec3828e36e8cd0229d004dbdf2afb3137e3e584de04e5b7bcd2b593da41da7", func := "skald/skaldlaw21.ElectOrders", spec := "electOrders", unfollowed := true, recurses := true, apart := false }
def ElectOrdersSaid : Prop := electOrdersRow.holds Try.pinned (OpenSpec.ofChange electOrdersSpec)

/-- ITS FALSE NEIGHBOUR: 'it returns false'. Refute it at one input. -/
def electOrdersWrong : ChangeSpec := { name := "electOrders", fn := fun _ => fun
  | [d1, d2, d3] => { results := [.lit (.bool false)], args := [d1, d2, d3] }
  | _ => none }
def ElectOrdersWrongFalsely : Prop := electOrdersRow.holds Try.pinned (OpenSpec.ofChange electOrdersWrong)

/-- 'skaldlaw21.ElectTurns': WHATEVER THE INPUT: true; the input reads as it did. -/
def electTurnsSpec : ChangeSpec := { name := "electTurns", fn := fun _ => fun
  | [d1, d2] => { results := [.lit (.bool true)], args := [d1, d2] }
  | _ => none }
def electTurnsRow : OpenClaim := { program := "ytklfbngmakkefaa", sum := "95ec3828e36e8cd0229d004dbdf2afb3137e3e584de04e5b7bcd2b593da41da7", func := "skald/skaldlaw21.ElectTurns", spec := "electTurns", unfollowed := true, recurses := true, apart := false }
def ElectTurnsSaid : Prop := electTurnsRow.holds Try.pinned (OpenSpec.ofChange electTurnsSpec)

/-- ITS FALSE NEIGHBOUR: 'it returns false'. Refute it at one input. -/
def electTurnsWrong : ChangeSpec := { name := "electTurns", fn := fun _ => fun
  | [d1, d2] => { results := [.lit (.bool false)], args := [d1, d2] }
  | _ => none }
def ElectTurnsWrongFalsely : Prop := electTurnsRow.holds Try.pinned (OpenSpec.ofChange electTurnsWrong)

/-- 'skaldlaw21.ElectBeats': WHATEVER THE INPUT: true; the input reads as it did. -/
def electBeatsSpec : ChangeSpec := { name := "electBeats", fn := fun _ => fun
  | [d1, d2] => { results := [.lit (.bool true)], args := [d1, d2] }
  | _ => none }
def electBeatsRow : OpenClaim := { program := "ytklfbngmakkefaa", sum := "95ec3828e36e8cd0229d004dbdf2afb3137e3e584de04e5b7bcd2b593da41da7", func := "skald/skaldlaw21.ElectBeats", spec := "electBeats", unfollowed := true, recurses := true, apart := false }
def ElectBeatsSaid : Prop := electBeatsRow.holds Try.pinned (OpenSpec.ofChange electBeatsSpec)

/-- ITS FALSE NEIGHBOUR: 'it returns false'. Refute it at one input. -/
def electBeatsWrong : ChangeSpec := { name := "electBeats", fn := fun _ => fun
  | [d1, d2] => { results := [.lit (.bool false)], args := [d1, d2] }
  | _ => none }
def ElectBeatsWrongFalsely : Prop := electBeatsRow.holds Try.pinned (OpenSpec.ofChange electBeatsWrong)

/-- 'skaldlaw21.ElectRefuses': WHATEVER THE INPUT: true; the input reads as it did. -/
def electRefusesSpec : ChangeSpec := { name := "electRefuses", fn := fun _ => fun
  | [d1, d2] => { results := [.lit (.bool true)], args := [d1, d2] }
  | _ => none }
def electRefusesRow : OpenClaim := { program := "ytklfbngmakkefaa", sum := "95ec3828e36e8cd0229d004dbdf2afb3137e3e584de04e5b7bcd2b593da41da7", func := "skald/skaldlaw21.ElectRefuses", spec := "electRefuses", unfollowed := true, recurses := true, apart := false }
def ElectRefusesSaid : Prop := electRefusesRow.holds Try.pinned (OpenSpec.ofChange electRefusesSpec)

/-- ITS FALSE NEIGHBOUR: 'it returns false'. Refute it at one input. -/
def electRefusesWrong : ChangeSpec := { name := "electRefuses", fn := fun _ => fun
  | [d1, d2] => { results := [.lit (.bool false)], args := [d1, d2] }
  | _ => none }
def ElectRefusesWrongFalsely : Prop := electRefusesRow.holds Try.pinned (OpenSpec.ofChange electRefusesWrong)

/-- 'skaldlaw21.ElectOne': WHATEVER THE INPUT: true; the input reads as it did. -/
def electOneSpec : ChangeSpec := { name := "electOne", fn := fun _ => fun
  | [d] => { results := [.lit (.bool true)], args := [d] }
  | _ => none }
def electOneRow : OpenClaim := { program := "ytklfbngmakkefaa", sum := "95ec3828e36e8cd0229d004dbdf2afb3137e3e584de04e5b7bcd2b593da41da7", func := "skald/skaldlaw21.ElectOne", spec := "electOne", unfollowed := true, recurses := true, apart := false }
def ElectOneSaid : Prop := electOneRow.holds Try.pinned (OpenSpec.ofChange electOneSpec)

/-- ITS FALSE NEIGHBOUR: 'it returns false'. Refute it at one input. -/
def electOneWrong : ChangeSpec := { name := "electOne", fn := fun _ => fun
  | [d] => { results := [.lit (.bool false)], args := [d] }
  | _ => none }
def ElectOneWrongFalsely : Prop := electOneRow.holds Try.pinned (OpenSpec.ofChange electOneWrong)

/-- 'skaldlaw21.ElectApart': WHATEVER THE INPUT: true; the input reads as it did. -/
def electApartSpec : ChangeSpec := { name := "electApart", fn := fun _ => fun
  | [d1, d2, d3] => { results := [.lit (.bool true)], args := [d1, d2, d3] }
  | _ => none }
def electApartRow : OpenClaim := { program := "ytklfbngmakkefaa", sum := "95ec3828e36e8cd0229d004dbdf2afb3137e3e584de04e5b7bcd2b593da41da7", func := "skald/skaldlaw21.ElectApart", spec := "electApart", unfollowed := true, recurses := true, apart := false }
def ElectApartSaid : Prop := electApartRow.holds Try.pinned (OpenSpec.ofChange electApartSpec)

/-- ITS FALSE NEIGHBOUR: 'it returns false'. Refute it at one input. -/
def electApartWrong : ChangeSpec := { name := "electApart", fn := fun _ => fun
  | [d1, d2, d3] => { results := [.lit (.bool false)], args := [d1, d2, d3] }
  | _ => none }
def ElectApartWrongFalsely : Prop := electApartRow.holds Try.pinned (OpenSpec.ofChange electApartWrong)

/- THE SECOND FORM. 'bulk': how many values and letters a reading holds, each counted each time it is reached (what is shared counts as often as it is met; a slice's spare places count too). A statement '..UptoSaid' is the law's where the arguments, and the package variables that the reading takes, are together of bulk at most 1048576: NARROWER than '..Said'. Prove '..Said' where nothing that the law and all that it calls make is longer than what came in: it says more and counts as full. Else prove '..UptoSaid'. A law counts once. -/
mutual
def uptoBulk {H : Type} : DataW H → Nat
  | .lit (.string bytes) => bytes.length + 1
  | .lit _ => 1
  | .nil => 1
  | .ptr d => uptoBulk d + 1
  | .slice elems spare => uptoBulkAll elems + uptoBulkAll spare + 1
  | .agg parts => uptoBulkAll parts + 1
  | .iface _ d => uptoBulk d + 1
  | .map entries => uptoBulkEntries entries + 1
  | .held _ => 1
def uptoBulkAll {H : Type} : List (DataW H) → Nat
  | [] => 0
  | d :: r => uptoBulk d + uptoBulkAll r
def uptoBulkEntries {H : Type} : List (Lit × DataW H) → Nat
  | [] => 0
  | x :: r => uptoBulkEntry x + uptoBulkEntries r
def uptoBulkEntry {H : Type} : Lit × DataW H → Nat
  | (.string bytes, d) => bytes.length + uptoBulk d + 1
  | (_, d) => uptoBulk d + 1
 end
def uptoSmall : (H : Type) → List (DataW H) → Bool := fun _ ds => decide (uptoBulkAll ds ≤ 1048576)
def OpenSpec.upto (s : _root_.Go.ChangeSpec) : _root_.Go.OpenSpec := { _root_.Go.OpenSpec.ofChange s with cond := some uptoSmall }

/-- 'skaldlaw21.ElectWaits', WHERE WHAT IT READS IS OF BULK AT MOST 1048576: true; the input reads as it did. -/
def electWaitsUptoRow : OpenClaim := { program := "ytklfbngmakkefaa", sum := "95ec3828e36e8cd0229d004dbdf2afb3137e3e584de04e5b7bcd2b593da41da7", func := "skald/skaldlaw21.ElectWaits", spec := "electWaits", unfollowed := true, recurses := true, apart := false, narrowed := true }
def ElectWaitsUptoSaid : Prop := electWaitsUptoRow.holds Try.pinned (OpenSpec.upto electWaitsSpec)

/-- 'skaldlaw21.ElectGroups', WHERE WHAT IT READS IS OF BULK AT MOST 1048576: true; the input reads as it did. -/
def electGroupsUptoRow : OpenClaim := { program := "ytklfbngmakkefaa", sum := "95ec3828e36e8cd0229d004dbdf2afb3137e3e584de04e5b7bcd2b593da41da7", func := "skald/skaldlaw21.ElectGroups", spec := "electGroups", unfollowed := true, recurses := true, apart := false, narrowed := true }
def ElectGroupsUptoSaid : Prop := electGroupsUptoRow.holds Try.pinned (OpenSpec.upto electGroupsSpec)

/-- 'skaldlaw21.ElectOrders', WHERE WHAT IT READS IS OF BULK AT MOST 1048576: true; the input reads as it did. -/
def electOrdersUptoRow : OpenClaim := { program := "ytklfbngmakkefaa", sum := "95ec3828e36e8cd0229d004dbdf2afb3137e3e584de04e5b7bcd2b593da41da7", func := "skald/skaldlaw21.ElectOrders", spec := "electOrders", unfollowed := true, recurses := true, apart := false, narrowed := true }
def ElectOrdersUptoSaid : Prop := electOrdersUptoRow.holds Try.pinned (OpenSpec.upto electOrdersSpec)

/-- 'skaldlaw21.ElectTurns', WHERE WHAT IT READS IS OF BULK AT MOST 1048576: true; the input reads as it did. -/
def electTurnsUptoRow : OpenClaim := { program := "ytklfbngmakkefaa", sum := "95ec3828e36e8cd0229d004dbdf2afb3137e3e584de04e5b7bcd2b593da41da7", func := "skald/skaldlaw21.ElectTurns", spec := "electTurns", unfollowed := true, recurses := true, apart := false, narrowed := true }
def ElectTurnsUptoSaid : Prop := electTurnsUptoRow.holds Try.pinned (OpenSpec.upto electTurnsSpec)

/-- 'skaldlaw21.ElectBeats', WHERE WHAT IT READS IS OF BULK AT MOST 1048576: true; the input reads as it did. -/
def electBeatsUptoRow : OpenClaim := { program := "ytklfbngmakkefaa", sum := "95ec3828e36e8cd0229d004dbdf2afb3137e3e584de04e5b7bcd2b593da41da7", func := "skald/skaldlaw21.ElectBeats", spec := "electBeats", unfollowed := true, recurses := true, apart := false, narrowed := true }
def ElectBeatsUptoSaid : Prop := electBeatsUptoRow.holds Try.pinned (OpenSpec.upto electBeatsSpec)

/-- 'skaldlaw21.ElectRefuses', WHERE WHAT IT READS IS OF BULK AT MOST 1048576: true; the input reads as it did. -/
def electRefusesUptoRow : OpenClaim := { program := "ytklfbngmakkefaa", sum := "95ec3828e36e8cd0229d004dbdf2afb3137e3e584de04e5b7bcd2b593da41da7", func := "skald/skaldlaw21.ElectRefuses", spec := "electRefuses", unfollowed := true, recurses := true, apart := false, narrowed := true }
def ElectRefusesUptoSaid : Prop := electRefusesUptoRow.holds Try.pinned (OpenSpec.upto electRefusesSpec)

/-- 'skaldlaw21.ElectOne', WHERE WHAT IT READS IS OF BULK AT MOST 1048576: true; the input reads as it did. -/
def electOneUptoRow : OpenClaim := { program := "ytklfbngmakkefaa", sum := "95ec3828e36e8cd0229d004dbdf2afb3137e3e584de04e5b7bcd2b593da41da7", func := "skald/skaldlaw21.ElectOne", spec := "electOne", unfollowed := true, recurses := true, apart := false, narrowed := true }
def ElectOneUptoSaid : Prop := electOneUptoRow.holds Try.pinned (OpenSpec.upto electOneSpec)

/-- 'skaldlaw21.ElectApart', WHERE WHAT IT READS IS OF BULK AT MOST 1048576: true; the input reads as it did. -/
def electApartUptoRow : OpenClaim := { program := "ytklfbngmakkefaa", sum := "95ec3828e36e8cd0229d004dbdf2afb3137e3e584de04e5b7bcd2b593da41da7", func := "skald/skaldlaw21.ElectApart", spec := "electApart", unfollowed := true, recurses := true, apart := false, narrowed := true }
def ElectApartUptoSaid : Prop := electApartUptoRow.holds Try.pinned (OpenSpec.upto electApartSpec)

end Rows
end Go.Proofs.Ytklfbngmakkefaa
