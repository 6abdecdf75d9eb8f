/-
  No cell of these rows narrows 'for every input' (looked for: loops, veiled, ifaces, maps, wideKeys, modest, calm, conditions, laid).
  DERIVED. THE GIVEN ROWS OF THIS SEAT. 9 by the template 'for every input the law returns true; each argument reads behind the call as it read before'; 0 by the template 'total and deterministic' (their statements: YtjpklbkeofjppaaTotals.lean).
  GIVEN WITH THE SEED: the statements are not yours to turn. If you find one false, say at which input.
  Laid BY PROGRAM, IN A SANDBOX (cutbox-rows.mjs): the forced cells as the released guide's own fill.sh prints them over the translation 8b2ec34e04ee803c… (all of the seat's roots in one cut). By AI agents, Wed Nov 11 2026. No macro, syntax, notation, axiom, sorry.
-/
import Derived.Test.YtjpklbkeofjppaaChecked
import GoSem.Claim
import GoSem.ClaimJoined
import GoSem.ClaimMapViews
import Derived.JoinedTies
import Derived.KernelRfl
namespace Go.Proofs.Ytjpklbkeofjppaa
/- THE CELL 'sum', in the pinned program and in every row, IS THE sha256 OF THE DUMP (.gsa) THAT YtjpklbkeofjppaaProg.lean LOADS. Nothing in Lean hashes anything: it is a label: what it is worth is what the hold of that sum in a sandbox is worth. -/
noncomputable def Try.pinned : Pinned := { name := "ytjpklbkeofjppaa", sum := "8b2ec34e04ee803cab3f4b916e345cb9ae0c0326907a9f0e708b563ae762daf9", checked := Try.checked }
namespace Rows
def none {H : Type} : Left H := { results := [], args := [] }

/-- 'laws.FnExactRedundantMany': WHATEVER THE INPUT: true; the input reads as it did. -/
def fnExactRedundantManySpec : ChangeSpec := { name := "fnExactRedundantMany", fn := fun _ => fun
  | [d] => { results := [.lit (.bool true)], args := [d] }
  | _ => none }
def fnExactRedundantManyRow : OpenClaim := { program := "ytjpklbkeofjppaa", sum := "8b2ec34e04ee803cab3f4b916e345cb9ae0c0326907a9f0e708b563ae762daf9", func := "loop.example/radiointerferometer/laws.FnExactRedundantMany", spec := "fnExactRedundantMany", unfollowed := true, recurses := true, plainKeys := false, apart := false }
def FnExactRedundantManySaid : Prop := fnExactRedundantManyRow.holds Try.pinned (OpenSpec.ofChange fnExactRedundantManySpec)

/-- ITS FALSE NEIGHBOUR: 'it returns false'. Refute it at one input. -/
def fnExactRedundantManyWrong : ChangeSpec := { name := "fnExactRedundantMany", fn := fun _ => fun
  | [d] => { results := [.lit (.bool false)], args := [d] }
  | _ => none }
def FnExactRedundantManyWrongFalsely : Prop := fnExactRedundantManyRow.holds Try.pinned (OpenSpec.ofChange fnExactRedundantManyWrong)

/-- 'laws.FnExactRedundantGroups': WHATEVER THE INPUT: true; the input reads as it did. -/
def fnExactRedundantGroupsSpec : ChangeSpec := { name := "fnExactRedundantGroups", fn := fun _ => fun
  | [d] => { results := [.lit (.bool true)], args := [d] }
  | _ => none }
def fnExactRedundantGroupsRow : OpenClaim := { program := "ytjpklbkeofjppaa", sum := "8b2ec34e04ee803cab3f4b916e345cb9ae0c0326907a9f0e708b563ae762daf9", func := "loop.example/radiointerferometer/laws.FnExactRedundantGroups", spec := "fnExactRedundantGroups", unfollowed := true, recurses := true, plainKeys := false, apart := false }
def FnExactRedundantGroupsSaid : Prop := fnExactRedundantGroupsRow.holds Try.pinned (OpenSpec.ofChange fnExactRedundantGroupsSpec)

/-- ITS FALSE NEIGHBOUR: 'it returns false'. Refute it at one input. -/
def fnExactRedundantGroupsWrong : ChangeSpec := { name := "fnExactRedundantGroups", fn := fun _ => fun
  | [d] => { results := [.lit (.bool false)], args := [d] }
  | _ => none }
def FnExactRedundantGroupsWrongFalsely : Prop := fnExactRedundantGroupsRow.holds Try.pinned (OpenSpec.ofChange fnExactRedundantGroupsWrong)

/-- 'laws.FnGroupsLess': WHATEVER THE INPUT: true; the input reads as it did. -/
def fnGroupsLessSpec : ChangeSpec := { name := "fnGroupsLess", fn := fun _ => fun
  | [d] => { results := [.lit (.bool true)], args := [d] }
  | _ => none }
def fnGroupsLessRow : OpenClaim := { program := "ytjpklbkeofjppaa", sum := "8b2ec34e04ee803cab3f4b916e345cb9ae0c0326907a9f0e708b563ae762daf9", func := "loop.example/radiointerferometer/laws.FnGroupsLess", spec := "fnGroupsLess", unfollowed := true, recurses := true, plainKeys := false, apart := false }
def FnGroupsLessSaid : Prop := fnGroupsLessRow.holds Try.pinned (OpenSpec.ofChange fnGroupsLessSpec)

/-- ITS FALSE NEIGHBOUR: 'it returns false'. Refute it at one input. -/
def fnGroupsLessWrong : ChangeSpec := { name := "fnGroupsLess", fn := fun _ => fun
  | [d] => { results := [.lit (.bool false)], args := [d] }
  | _ => none }
def FnGroupsLessWrongFalsely : Prop := fnGroupsLessRow.holds Try.pinned (OpenSpec.ofChange fnGroupsLessWrong)

/-- 'laws.FnGroupsLine': WHATEVER THE INPUT: true; the input reads as it did. -/
def fnGroupsLineSpec : ChangeSpec := { name := "fnGroupsLine", fn := fun _ => fun
  | [d1, d2] => { results := [.lit (.bool true)], args := [d1, d2] }
  | _ => none }
def fnGroupsLineRow : OpenClaim := { program := "ytjpklbkeofjppaa", sum := "8b2ec34e04ee803cab3f4b916e345cb9ae0c0326907a9f0e708b563ae762daf9", func := "loop.example/radiointerferometer/laws.FnGroupsLine", spec := "fnGroupsLine", unfollowed := true, recurses := true, plainKeys := false, apart := false }
def FnGroupsLineSaid : Prop := fnGroupsLineRow.holds Try.pinned (OpenSpec.ofChange fnGroupsLineSpec)

/-- ITS FALSE NEIGHBOUR: 'it returns false'. Refute it at one input. -/
def fnGroupsLineWrong : ChangeSpec := { name := "fnGroupsLine", fn := fun _ => fun
  | [d1, d2] => { results := [.lit (.bool false)], args := [d1, d2] }
  | _ => none }
def FnGroupsLineWrongFalsely : Prop := fnGroupsLineRow.holds Try.pinned (OpenSpec.ofChange fnGroupsLineWrong)

/-- 'laws.FnGroupsOrder': WHATEVER THE INPUT: true; the input reads as it did. -/
def fnGroupsOrderSpec : ChangeSpec := { name := "fnGroupsOrder", fn := fun _ => fun
  | [d1, d2] => { results := [.lit (.bool true)], args := [d1, d2] }
  | _ => none }
def fnGroupsOrderRow : OpenClaim := { program := "ytjpklbkeofjppaa", sum := "8b2ec34e04ee803cab3f4b916e345cb9ae0c0326907a9f0e708b563ae762daf9", func := "loop.example/radiointerferometer/laws.FnGroupsOrder", spec := "fnGroupsOrder", unfollowed := true, recurses := true, plainKeys := false, apart := false }
def FnGroupsOrderSaid : Prop := fnGroupsOrderRow.holds Try.pinned (OpenSpec.ofChange fnGroupsOrderSpec)

/-- ITS FALSE NEIGHBOUR: 'it returns false'. Refute it at one input. -/
def fnGroupsOrderWrong : ChangeSpec := { name := "fnGroupsOrder", fn := fun _ => fun
  | [d1, d2] => { results := [.lit (.bool false)], args := [d1, d2] }
  | _ => none }
def FnGroupsOrderWrongFalsely : Prop := fnGroupsOrderRow.holds Try.pinned (OpenSpec.ofChange fnGroupsOrderWrong)

/-- 'laws.FnGroupsMany': WHATEVER THE INPUT: true; the input reads as it did. -/
def fnGroupsManySpec : ChangeSpec := { name := "fnGroupsMany", fn := fun _ => fun
  | [d] => { results := [.lit (.bool true)], args := [d] }
  | _ => none }
def fnGroupsManyRow : OpenClaim := { program := "ytjpklbkeofjppaa", sum := "8b2ec34e04ee803cab3f4b916e345cb9ae0c0326907a9f0e708b563ae762daf9", func := "loop.example/radiointerferometer/laws.FnGroupsMany", spec := "fnGroupsMany", unfollowed := true, recurses := true, plainKeys := false, apart := false }
def FnGroupsManySaid : Prop := fnGroupsManyRow.holds Try.pinned (OpenSpec.ofChange fnGroupsManySpec)

/-- ITS FALSE NEIGHBOUR: 'it returns false'. Refute it at one input. -/
def fnGroupsManyWrong : ChangeSpec := { name := "fnGroupsMany", fn := fun _ => fun
  | [d] => { results := [.lit (.bool false)], args := [d] }
  | _ => none }
def FnGroupsManyWrongFalsely : Prop := fnGroupsManyRow.holds Try.pinned (OpenSpec.ofChange fnGroupsManyWrong)

/-- 'laws.FnGroupsTurn': WHATEVER THE INPUT: true; the input reads as it did. -/
def fnGroupsTurnSpec : ChangeSpec := { name := "fnGroupsTurn", fn := fun _ => fun
  | [d1, d2] => { results := [.lit (.bool true)], args := [d1, d2] }
  | _ => none }
def fnGroupsTurnRow : OpenClaim := { program := "ytjpklbkeofjppaa", sum := "8b2ec34e04ee803cab3f4b916e345cb9ae0c0326907a9f0e708b563ae762daf9", func := "loop.example/radiointerferometer/laws.FnGroupsTurn", spec := "fnGroupsTurn", unfollowed := true, recurses := true, plainKeys := false, apart := false }
def FnGroupsTurnSaid : Prop := fnGroupsTurnRow.holds Try.pinned (OpenSpec.ofChange fnGroupsTurnSpec)

/-- ITS FALSE NEIGHBOUR: 'it returns false'. Refute it at one input. -/
def fnGroupsTurnWrong : ChangeSpec := { name := "fnGroupsTurn", fn := fun _ => fun
  | [d1, d2] => { results := [.lit (.bool false)], args := [d1, d2] }
  | _ => none }
def FnGroupsTurnWrongFalsely : Prop := fnGroupsTurnRow.holds Try.pinned (OpenSpec.ofChange fnGroupsTurnWrong)

/-- 'laws.FnGroups': WHATEVER THE INPUT: true; the input reads as it did. -/
def fnGroupsSpec : ChangeSpec := { name := "fnGroups", fn := fun _ => fun
  | [d] => { results := [.lit (.bool true)], args := [d] }
  | _ => none }
def fnGroupsRow : OpenClaim := { program := "ytjpklbkeofjppaa", sum := "8b2ec34e04ee803cab3f4b916e345cb9ae0c0326907a9f0e708b563ae762daf9", func := "loop.example/radiointerferometer/laws.FnGroups", spec := "fnGroups", unfollowed := true, recurses := true, plainKeys := false, apart := false }
def FnGroupsSaid : Prop := fnGroupsRow.holds Try.pinned (OpenSpec.ofChange fnGroupsSpec)

/-- ITS FALSE NEIGHBOUR: 'it returns false'. Refute it at one input. -/
def fnGroupsWrong : ChangeSpec := { name := "fnGroups", fn := fun _ => fun
  | [d] => { results := [.lit (.bool false)], args := [d] }
  | _ => none }
def FnGroupsWrongFalsely : Prop := fnGroupsRow.holds Try.pinned (OpenSpec.ofChange fnGroupsWrong)

/-- 'laws.FnRedundantPoint': WHATEVER THE INPUT: true; the input reads as it did. -/
def fnRedundantPointSpec : ChangeSpec := { name := "fnRedundantPoint", fn := fun _ => fun
  | [d] => { results := [.lit (.bool true)], args := [d] }
  | _ => none }
def fnRedundantPointRow : OpenClaim := { program := "ytjpklbkeofjppaa", sum := "8b2ec34e04ee803cab3f4b916e345cb9ae0c0326907a9f0e708b563ae762daf9", func := "loop.example/radiointerferometer/laws.FnRedundantPoint", spec := "fnRedundantPoint", unfollowed := true, recurses := true, plainKeys := false, apart := false }
def FnRedundantPointSaid : Prop := fnRedundantPointRow.holds Try.pinned (OpenSpec.ofChange fnRedundantPointSpec)

/-- ITS FALSE NEIGHBOUR: 'it returns false'. Refute it at one input. -/
def fnRedundantPointWrong : ChangeSpec := { name := "fnRedundantPoint", fn := fun _ => fun
  | [d] => { results := [.lit (.bool false)], args := [d] }
  | _ => none }
def FnRedundantPointWrongFalsely : Prop := fnRedundantPointRow.holds Try.pinned (OpenSpec.ofChange fnRedundantPointWrong)

/- THE SECOND FORM. 'bulk': how many values and letters a reading holds, each counted each time it is reached (what is shared counts as often as it is met; a slice's spare places count too). A statement '..UptoSaid' is the law's where the arguments, and the package variables that the reading takes, are together of bulk at most 1048576: NARROWER than '..Said'. Prove '..Said' where nothing that the law and all that it calls make is longer than what came in: it says more and counts as full. Else prove '..UptoSaid'. A law counts once. -/
mutual
def uptoBulk {H : Type} : DataW H → Nat
  | .lit (.string bytes) => bytes.length + 1
  | .lit _ => 1
  | .nil => 1
  | .ptr d => uptoBulk d + 1
  | .slice elems spare => uptoBulkAll elems + uptoBulkAll spare + 1
  | .agg parts => uptoBulkAll parts + 1
  | .iface _ d => uptoBulk d + 1
  | .map entries => uptoBulkEntries entries + 1
  | .held _ => 1
def uptoBulkAll {H : Type} : List (DataW H) → Nat
  | [] => 0
  | d :: r => uptoBulk d + uptoBulkAll r
def uptoBulkEntries {H : Type} : List (Lit × DataW H) → Nat
  | [] => 0
  | x :: r => uptoBulkEntry x + uptoBulkEntries r
def uptoBulkEntry {H : Type} : Lit × DataW H → Nat
  | (.string bytes, d) => bytes.length + uptoBulk d + 1
  | (_, d) => uptoBulk d + 1
 end
def uptoSmall : (H : Type) → List (DataW H) → Bool := fun _ ds => decide (uptoBulkAll ds ≤ 1048576)
def OpenSpec.upto (s : _root_.Go.ChangeSpec) : _root_.Go.OpenSpec := { _root_.Go.OpenSpec.ofChange s with cond := some uptoSmall }

/-- 'laws.FnExactRedundantMany', WHERE WHAT IT READS IS OF BULK AT MOST 1048576: true; the input reads as it did. -/
def fnExactRedundantManyUptoRow : OpenClaim := { program := "ytjpklbkeofjppaa", sum := "8b2ec34e04ee803cab3f4b916e345cb9ae0c0326907a9f0e708b563ae762daf9", func := "loop.example/radiointerferometer/laws.FnExactRedundantMany", spec := "fnExactRedundantMany", unfollowed := true, recurses := true, plainKeys := false, apart := false, narrowed := true }
def FnExactRedundantManyUptoSaid : Prop := fnExactRedundantManyUptoRow.holds Try.pinned (OpenSpec.upto fnExactRedundantManySpec)

/-- 'laws.FnExactRedundantGroups', WHERE WHAT IT READS IS OF BULK AT MOST 1048576: true; the input reads as it did. -/
def fnExactRedundantGroupsUptoRow : OpenClaim := { program := "ytjpklbkeofjppaa", sum := "8b2ec34e04ee803cab3f4b916e345cb9ae0c0326907a9f0e708b563ae762daf9", func := "loop.example/radiointerferometer/laws.FnExactRedundantGroups", spec := "fnExactRedundantGroups", unfollowed := true, recurses := true, plainKeys := false, apart := false, narrowed := true }
def FnExactRedundantGroupsUptoSaid : Prop := fnExactRedundantGroupsUptoRow.holds Try.pinned (OpenSpec.upto fnExactRedundantGroupsSpec)

/-- 'laws.FnGroupsLess', WHERE WHAT IT READS IS OF BULK AT MOST 1048576: true; the input reads as it did. -/
def fnGroupsLessUptoRow : OpenClaim := { program := "ytjpklbkeofjppaa", sum := "8b2ec34e04ee803cab3f4b916e345cb9ae0c0326907a9f0e708b563ae762daf9", func := "loop.example/radiointerferometer/laws.FnGroupsLess", spec := "fnGroupsLess", unfollowed := true, recurses := true, plainKeys := false, apart := false, narrowed := true }
def FnGroupsLessUptoSaid : Prop := fnGroupsLessUptoRow.holds Try.pinned (OpenSpec.upto fnGroupsLessSpec)

/-- 'laws.FnGroupsLine', WHERE WHAT IT READS IS OF BULK AT MOST 1048576: true; the input reads as it did. -/
def fnGroupsLineUptoRow : OpenClaim := { program := "ytjpklbkeofjppaa", sum := "8b2ec34e04ee803cab3f4b916e345cb9ae0c0326907a9f0e708b563ae762daf9", func := "loop.example/radiointerferometer/laws.FnGroupsLine", spec := "fnGroupsLine", unfollowed := true, recurses := true, plainKeys := false, apart := false, narrowed := true }
def FnGroupsLineUptoSaid : Prop := fnGroupsLineUptoRow.holds Try.pinned (OpenSpec.upto fnGroupsLineSpec)

/-- 'laws.FnGroupsOrder', WHERE WHAT IT READS IS OF BULK AT MOST 1048576: true; the input reads as it did. -/
def fnGroupsOrderUptoRow : OpenClaim := { program := "ytjpklbkeofjppaa", sum := "8b2ec34e04ee803cab3f4b916e345cb9ae0c0326907a9f0e708b563ae762daf9", func := "loop.example/radiointerferometer/laws.FnGroupsOrder", spec := "fnGroupsOrder", unfollowed := true, recurses := true, plainKeys := false, apart := false, narrowed := true }
def FnGroupsOrderUptoSaid : Prop := fnGroupsOrderUptoRow.holds Try.pinned (OpenSpec.upto fnGroupsOrderSpec)

/-- 'laws.FnGroupsMany', WHERE WHAT IT READS IS OF BULK AT MOST 1048576: true; the input reads as it did. -/
def fnGroupsManyUptoRow : OpenClaim := { program := "ytjpklbkeofjppaa", sum := "8b2ec34e04ee803cab3f4b916e345cb9ae0c0326907a9f0e708b563ae762daf9", func := "loop.example/radiointerferometer/laws.FnGroupsMany", spec := "fnGroupsMany", unfollowed := true, recurses := true, plainKeys := false, apart := false, narrowed := true }
def FnGroupsManyUptoSaid : Prop := fnGroupsManyUptoRow.holds Try.pinned (OpenSpec.upto fnGroupsManySpec)

/-- 'laws.FnGroupsTurn', WHERE WHAT IT READS IS OF BULK AT MOST 1048576: true; the input reads as it did. -/
def fnGroupsTurnUptoRow : OpenClaim := { program := "ytjpklbkeofjppaa", sum := "8b2ec34e04ee803cab3f4b916e345cb9ae0c0326907a9f0e708b563ae762daf9", func := "loop.example/radiointerferometer/laws.FnGroupsTurn", spec := "fnGroupsTurn", unfollowed := true, recurses := true, plainKeys := false, apart := false, narrowed := true }
def FnGroupsTurnUptoSaid : Prop := fnGroupsTurnUptoRow.holds Try.pinned (OpenSpec.upto fnGroupsTurnSpec)

/-- 'laws.FnGroups', WHERE WHAT IT READS IS OF BULK AT MOST 1048576: true; the input reads as it did. -/
def fnGroupsUptoRow : OpenClaim := { program := "ytjpklbkeofjppaa", sum := "8b2ec34e04ee803cab3f4b916e345cb9ae0c0326907a9f0e708b563ae762daf9", func := "loop.example/radiointerferometer/laws.FnGroups", spec := "fnGroups", unfollowed := true, recurses := true, plainKeys := false, apart := false, narrowed := true }
def FnGroupsUptoSaid : Prop := fnGroupsUptoRow.holds Try.pinned (OpenSpec.upto fnGroupsSpec)

/-- 'laws.FnRedundantPoint', WHERE WHAT IT READS IS OF BULK AT MOST 1048576: true; the input reads as it did. -/
def fnRedundantPointUptoRow : OpenClaim := { program := "ytjpklbkeofjppaa", sum := "8b2ec34e04ee803cab3f4b916e345cb9ae0c0326907a9f0e708b563ae762daf9", func := "loop.example/radiointerferometer/laws.FnRedundantPoint", spec := "fnRedundantPoint", unfollowed := true, recurses := true, plainKeys := false, apart := false, narrowed := true }
def FnRedundantPointUptoSaid : Prop := fnRedundantPointUptoRow.holds Try.pinned (OpenSpec.upto fnRedundantPointSpec)

end Rows
end Go.Proofs.Ytjpklbkeofjppaa
