/-
  No cell of these rows narrows 'for every input' (looked for: loops, veiled, ifaces, maps, wideKeys, modest, calm, conditions, laid).
  DERIVED. THE GIVEN ROWS OF THIS SEAT. 7 by the template 'for every input the law returns true; each argument reads behind the call as it read before'; 0 by the template 'total and deterministic' (their statements: YtnnadpbfidfhoaaTotals.lean).
  GIVEN WITH THE SEED: the statements are not yours to turn. If you find one false, say at which input.
  Laid BY PROGRAM, IN A SANDBOX (cutbox-rows.mjs): the forced cells as the released guide's own fill.sh prints them over the translation aa7b319cb9d05005… (all of the seat's roots in one cut). By AI agents, Wed Nov 11 2026. No macro, syntax, notation, axiom, sorry.
-/
import Derived.Test.YtnnadpbfidfhoaaChecked
import GoSem.Claim
import GoSem.ClaimJoined
import GoSem.ClaimMapViews
import Derived.JoinedTies
import Derived.KernelRfl
namespace Go.Proofs.Ytnnadpbfidfhoaa
/- THE CELL 'sum', in the pinned program and in every row, IS THE sha256 OF THE DUMP (.gsa) THAT YtnnadpbfidfhoaaProg.lean LOADS. Nothing in Lean hashes anything: it is a label: what it is worth is what the hold of that sum in a sandbox is worth. -/
noncomputable def Try.pinned : Pinned := { name := "ytnnadpbfidfhoaa", sum := "aa7b319cb9d05005fdc7e09a8d2e3cb2f7054c0bc310e4fe51e7f99041b5fbe9", checked := Try.checked }
namespace Rows
def none {H : Type} : Left H := { results := [], args := [] }

/-- 'skaldlaw13.LearnMajority': WHATEVER THE INPUT: true; the input reads as it did. -/
def learnMajoritySpec : ChangeSpec := { name := "learnMajority", fn := fun _ => fun
  | [d1, d2, d3, d4, d5] => { results := [.lit (.bool true)], args := [d1, d2, d3, d4, d5] }
  | _ => none }
def learnMajorityRow : OpenClaim := { program := "ytnnadpbfidfhoaa", sum := "aa7b319cb9d05005fdc7e09a8d2e3cb2f7054c0bc310e4fe51e7f99041b5fbe9", func := "skald/skaldlaw13.LearnMajority", spec := "learnMajority", unfollowed := true, recurses := true, apart := false }
def LearnMajoritySaid : Prop := learnMajorityRow.holds Try.pinned (OpenSpec.ofChange learnMajoritySpec)

/-- ITS FALSE NEIGHBOUR: 'it returns false'. Refute it at one input. -/
def learnMajorityWrong : ChangeSpec := { name := "learnMajority", fn := fun _ => fun
  | [d1, d2, d3, d4, d5] => { results := [.lit (.bool false)], args := [d1, d2, d3, d4, d5] }
  | _ => none }
def LearnMajorityWrongFalsely : Prop := learnMajorityRow.holds Try.pinned (OpenSpec.ofChange learnMajorityWrong)

/-- 'skaldlaw13.LearnNewer': WHATEVER THE INPUT: true; the input reads as it did. -/
def learnNewerSpec : ChangeSpec := { name := "learnNewer", fn := fun _ => fun
  | [d1, d2] => { results := [.lit (.bool true)], args := [d1, d2] }
  | _ => none }
def learnNewerRow : OpenClaim := { program := "ytnnadpbfidfhoaa", sum := "aa7b319cb9d05005fdc7e09a8d2e3cb2f7054c0bc310e4fe51e7f99041b5fbe9", func := "skald/skaldlaw13.LearnNewer", spec := "learnNewer", unfollowed := true, recurses := true, apart := false }
def LearnNewerSaid : Prop := learnNewerRow.holds Try.pinned (OpenSpec.ofChange learnNewerSpec)

/-- ITS FALSE NEIGHBOUR: 'it returns false'. Refute it at one input. -/
def learnNewerWrong : ChangeSpec := { name := "learnNewer", fn := fun _ => fun
  | [d1, d2] => { results := [.lit (.bool false)], args := [d1, d2] }
  | _ => none }
def LearnNewerWrongFalsely : Prop := learnNewerRow.holds Try.pinned (OpenSpec.ofChange learnNewerWrong)

/-- 'skaldlaw13.LearnStays': WHATEVER THE INPUT: true; the input reads as it did. -/
def learnStaysSpec : ChangeSpec := { name := "learnStays", fn := fun _ => fun
  | [d1, d2, d3] => { results := [.lit (.bool true)], args := [d1, d2, d3] }
  | _ => none }
def learnStaysRow : OpenClaim := { program := "ytnnadpbfidfhoaa", sum := "aa7b319cb9d05005fdc7e09a8d2e3cb2f7054c0bc310e4fe51e7f99041b5fbe9", func := "skald/skaldlaw13.LearnStays", spec := "learnStays", unfollowed := true, recurses := true, apart := false }
def LearnStaysSaid : Prop := learnStaysRow.holds Try.pinned (OpenSpec.ofChange learnStaysSpec)

/-- ITS FALSE NEIGHBOUR: 'it returns false'. Refute it at one input. -/
def learnStaysWrong : ChangeSpec := { name := "learnStays", fn := fun _ => fun
  | [d1, d2, d3] => { results := [.lit (.bool false)], args := [d1, d2, d3] }
  | _ => none }
def LearnStaysWrongFalsely : Prop := learnStaysRow.holds Try.pinned (OpenSpec.ofChange learnStaysWrong)

/-- 'skaldlaw13.LearnUpto': WHATEVER THE INPUT: true; the input reads as it did. -/
def learnUptoSpec : ChangeSpec := { name := "learnUpto", fn := fun _ => fun
  | [d1, d2, d3] => { results := [.lit (.bool true)], args := [d1, d2, d3] }
  | _ => none }
def learnUptoRow : OpenClaim := { program := "ytnnadpbfidfhoaa", sum := "aa7b319cb9d05005fdc7e09a8d2e3cb2f7054c0bc310e4fe51e7f99041b5fbe9", func := "skald/skaldlaw13.LearnUpto", spec := "learnUpto", unfollowed := true, recurses := true, apart := false }
def LearnUptoSaid : Prop := learnUptoRow.holds Try.pinned (OpenSpec.ofChange learnUptoSpec)

/-- ITS FALSE NEIGHBOUR: 'it returns false'. Refute it at one input. -/
def learnUptoWrong : ChangeSpec := { name := "learnUpto", fn := fun _ => fun
  | [d1, d2, d3] => { results := [.lit (.bool false)], args := [d1, d2, d3] }
  | _ => none }
def LearnUptoWrongFalsely : Prop := learnUptoRow.holds Try.pinned (OpenSpec.ofChange learnUptoWrong)

/-- 'skaldlaw13.LearnPlays': WHATEVER THE INPUT: true; the input reads as it did. -/
def learnPlaysSpec : ChangeSpec := { name := "learnPlays", fn := fun _ => fun
  | [d1, d2, d3] => { results := [.lit (.bool true)], args := [d1, d2, d3] }
  | _ => none }
def learnPlaysRow : OpenClaim := { program := "ytnnadpbfidfhoaa", sum := "aa7b319cb9d05005fdc7e09a8d2e3cb2f7054c0bc310e4fe51e7f99041b5fbe9", func := "skald/skaldlaw13.LearnPlays", spec := "learnPlays", inPlace := ["maps.clone"], unfollowed := true, recurses := true, apart := false }
def LearnPlaysSaid : Prop := learnPlaysRow.holds Try.pinned (OpenSpec.ofChange learnPlaysSpec)

/-- ITS FALSE NEIGHBOUR: 'it returns false'. Refute it at one input. -/
def learnPlaysWrong : ChangeSpec := { name := "learnPlays", fn := fun _ => fun
  | [d1, d2, d3] => { results := [.lit (.bool false)], args := [d1, d2, d3] }
  | _ => none }
def LearnPlaysWrongFalsely : Prop := learnPlaysRow.holds Try.pinned (OpenSpec.ofChange learnPlaysWrong)

/-- 'skaldlaw13.LearnNil': WHATEVER THE INPUT: true; the input reads as it did. -/
def learnNilSpec : ChangeSpec := { name := "learnNil", fn := fun _ => fun
  | [d1, d2, d3] => { results := [.lit (.bool true)], args := [d1, d2, d3] }
  | _ => none }
def learnNilRow : OpenClaim := { program := "ytnnadpbfidfhoaa", sum := "aa7b319cb9d05005fdc7e09a8d2e3cb2f7054c0bc310e4fe51e7f99041b5fbe9", func := "skald/skaldlaw13.LearnNil", spec := "learnNil", inPlace := ["maps.clone"], unfollowed := true, recurses := true, apart := false }
def LearnNilSaid : Prop := learnNilRow.holds Try.pinned (OpenSpec.ofChange learnNilSpec)

/-- ITS FALSE NEIGHBOUR: 'it returns false'. Refute it at one input. -/
def learnNilWrong : ChangeSpec := { name := "learnNil", fn := fun _ => fun
  | [d1, d2, d3] => { results := [.lit (.bool false)], args := [d1, d2, d3] }
  | _ => none }
def LearnNilWrongFalsely : Prop := learnNilRow.holds Try.pinned (OpenSpec.ofChange learnNilWrong)

/-- 'skaldlaw13.LearnRefuses': WHATEVER THE INPUT: true; the input reads as it did. -/
def learnRefusesSpec : ChangeSpec := { name := "learnRefuses", fn := fun _ => fun
  | [d1, d2] => { results := [.lit (.bool true)], args := [d1, d2] }
  | _ => none }
def learnRefusesRow : OpenClaim := { program := "ytnnadpbfidfhoaa", sum := "aa7b319cb9d05005fdc7e09a8d2e3cb2f7054c0bc310e4fe51e7f99041b5fbe9", func := "skald/skaldlaw13.LearnRefuses", spec := "learnRefuses", inPlace := ["internal/abi.NoEscape", "internal/bytealg.MakeNoZero"], unfollowed := true, recurses := true, apart := false }
def LearnRefusesSaid : Prop := learnRefusesRow.holds Try.pinned (OpenSpec.ofChange learnRefusesSpec)

/-- ITS FALSE NEIGHBOUR: 'it returns false'. Refute it at one input. -/
def learnRefusesWrong : ChangeSpec := { name := "learnRefuses", fn := fun _ => fun
  | [d1, d2] => { results := [.lit (.bool false)], args := [d1, d2] }
  | _ => none }
def LearnRefusesWrongFalsely : Prop := learnRefusesRow.holds Try.pinned (OpenSpec.ofChange learnRefusesWrong)

/- THE SECOND FORM. 'bulk': how many values and letters a reading holds, each counted each time it is reached (what is shared counts as often as it is met; a slice's spare places count too). A statement '..UptoSaid' is the law's where the arguments, and the package variables that the reading takes, are together of bulk at most 1048576: NARROWER than '..Said'. Prove '..Said' where nothing that the law and all that it calls make is longer than what came in: it says more and counts as full. Else prove '..UptoSaid'. A law counts once. -/
mutual
def uptoBulk {H : Type} : DataW H → Nat
  | .lit (.string bytes) => bytes.length + 1
  | .lit _ => 1
  | .nil => 1
  | .ptr d => uptoBulk d + 1
  | .slice elems spare => uptoBulkAll elems + uptoBulkAll spare + 1
  | .agg parts => uptoBulkAll parts + 1
  | .iface _ d => uptoBulk d + 1
  | .map entries => uptoBulkEntries entries + 1
  | .held _ => 1
def uptoBulkAll {H : Type} : List (DataW H) → Nat
  | [] => 0
  | d :: r => uptoBulk d + uptoBulkAll r
def uptoBulkEntries {H : Type} : List (Lit × DataW H) → Nat
  | [] => 0
  | x :: r => uptoBulkEntry x + uptoBulkEntries r
def uptoBulkEntry {H : Type} : Lit × DataW H → Nat
  | (.string bytes, d) => bytes.length + uptoBulk d + 1
  | (_, d) => uptoBulk d + 1
 end
def uptoSmall : (H : Type) → List (DataW H) → Bool := fun _ ds => decide (uptoBulkAll ds ≤ 1048576)
def OpenSpec.upto (s : _root_.Go.ChangeSpec) : _root_.Go.OpenSpec := { _root_.Go.OpenSpec.ofChange s with cond := some uptoSmall }

/-- 'skaldlaw13.LearnMajority', WHERE WHAT IT READS IS OF BULK AT MOST 1048576: true; the input reads as it did. -/
def learnMajorityUptoRow : OpenClaim := { program := "ytnnadpbfidfhoaa", sum := "aa7b319cb9d05005fdc7e09a8d2e3cb2f7054c0bc310e4fe51e7f99041b5fbe9", func := "skald/skaldlaw13.LearnMajority", spec := "learnMajority", unfollowed := true, recurses := true, apart := false, narrowed := true }
def LearnMajorityUptoSaid : Prop := learnMajorityUptoRow.holds Try.pinned (OpenSpec.upto learnMajoritySpec)

/-- 'skaldlaw13.LearnNewer', WHERE WHAT IT READS IS OF BULK AT MOST 1048576: true; the input reads as it did. -/
def learnNewerUptoRow : OpenClaim := { program := "ytnnadpbfidfhoaa", sum := "aa7b319cb9d05005fdc7e09a8d2e3cb2f7054c0bc310e4fe51e7f99041b5fbe9", func := "skald/skaldlaw13.LearnNewer", spec := "learnNewer", unfollowed := true, recurses := true, apart := false, narrowed := true }
def LearnNewerUptoSaid : Prop := learnNewerUptoRow.holds Try.pinned (OpenSpec.upto learnNewerSpec)

/-- 'skaldlaw13.LearnStays', WHERE WHAT IT READS IS OF BULK AT MOST 1048576: true; the input reads as it did. -/
def learnStaysUptoRow : OpenClaim := { program := "ytnnadpbfidfhoaa", sum := "aa7b319cb9d05005fdc7e09a8d2e3cb2f7054c0bc310e4fe51e7f99041b5fbe9", func := "skald/skaldlaw13.LearnStays", spec := "learnStays", unfollowed := true, recurses := true, apart := false, narrowed := true }
def LearnStaysUptoSaid : Prop := learnStaysUptoRow.holds Try.pinned (OpenSpec.upto learnStaysSpec)

/-- 'skaldlaw13.LearnUpto', WHERE WHAT IT READS IS OF BULK AT MOST 1048576: true; the input reads as it did. -/
def learnUptoUptoRow : OpenClaim := { program := "ytnnadpbfidfhoaa", sum := "aa7b319cb9d05005fdc7e09a8d2e3cb2f7054c0bc310e4fe51e7f99041b5fbe9", func := "skald/skaldlaw13.LearnUpto", spec := "learnUpto", unfollowed := true, recurses := true, apart := false, narrowed := true }
def LearnUptoUptoSaid : Prop := learnUptoUptoRow.holds Try.pinned (OpenSpec.upto learnUptoSpec)

/-- 'skaldlaw13.LearnPlays', WHERE WHAT IT READS IS OF BULK AT MOST 1048576: true; the input reads as it did. -/
def learnPlaysUptoRow : OpenClaim := { program := "ytnnadpbfidfhoaa", sum := "aa7b319cb9d05005fdc7e09a8d2e3cb2f7054c0bc310e4fe51e7f99041b5fbe9", func := "skald/skaldlaw13.LearnPlays", spec := "learnPlays", inPlace := ["maps.clone"], unfollowed := true, recurses := true, apart := false, narrowed := true }
def LearnPlaysUptoSaid : Prop := learnPlaysUptoRow.holds Try.pinned (OpenSpec.upto learnPlaysSpec)

/-- 'skaldlaw13.LearnNil', WHERE WHAT IT READS IS OF BULK AT MOST 1048576: true; the input reads as it did. -/
def learnNilUptoRow : OpenClaim := { program := "ytnnadpbfidfhoaa", sum := "aa7b319cb9d05005fdc7e09a8d2e3cb2f7054c0bc310e4fe51e7f99041b5fbe9", func := "skald/skaldlaw13.LearnNil", spec := "learnNil", inPlace := ["maps.clone"], unfollowed := true, recurses := true, apart := false, narrowed := true }
def LearnNilUptoSaid : Prop := learnNilUptoRow.holds Try.pinned (OpenSpec.upto learnNilSpec)

/-- 'skaldlaw13.LearnRefuses', WHERE WHAT IT READS IS OF BULK AT MOST 1048576: true; the input reads as it did. -/
def learnRefusesUptoRow : OpenClaim := { program := "ytnnadpbfidfhoaa", sum := "aa7b319cb9d05005fdc7e09a8d2e3cb2f7054c0bc310e4fe51e7f99041b5fbe9", func := "skald/skaldlaw13.LearnRefuses", spec := "learnRefuses", inPlace := ["internal/abi.NoEscape", "internal/bytealg.MakeNoZero"], unfollowed := true, recurses := true, apart := false, narrowed := true }
def LearnRefusesUptoSaid : Prop := learnRefusesUptoRow.holds Try.pinned (OpenSpec.upto learnRefusesSpec)

end Rows
end Go.Proofs.Ytnnadpbfidfhoaa
