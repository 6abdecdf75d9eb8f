/-
  No cell of these rows narrows 'for every input' (looked for: loops, veiled, ifaces, maps, wideKeys, modest, calm, conditions, laid).
  DERIVED. THE GIVEN ROWS OF THIS SEAT. 12 by the template 'for every input the law returns true; each argument reads behind the call as it read before'; 0 by the template 'total and deterministic' (their statements: YtgipjfcmgmbcnaaTotals.lean).
  GIVEN WITH THE SEED: the statements are not yours to turn. If you find one false, say at which input.
  Laid BY PROGRAM, IN A SANDBOX (cutbox-rows.mjs): the forced cells as the released guide's own fill.sh prints them over the translation 88d9847702dfa842… (all of the seat's roots in one cut). By AI agents, Wed Nov 11 2026. No macro, syntax, notation, axiom, sorry.
-/
import Derived.Test.YtgipjfcmgmbcnaaChecked
import GoSem.Claim
import GoSem.ClaimJoined
import GoSem.ClaimMapViews
import Derived.JoinedTies
import Derived.KernelRfl
namespace Go.Proofs.Ytgipjfcmgmbcnaa
/- THE CELL 'sum', in the pinned program and in every row, IS THE sha256 OF THE DUMP (.gsa) THAT YtgipjfcmgmbcnaaProg.lean LOADS. Nothing in Lean hashes anything: it is a label: what it is worth is what the hold of that sum in a sandbox is worth. -/
noncomputable def Try.pinned : Pinned := { name := "ytgipjfcmgmbcnaa", sum := "88d9847702dfa84204869c24208535e6a8779439236320e23df769e9b70bf420", checked := Try.checked }
namespace Rows
def none {H : Type} : Left H := { results := [], args := [] }

/-- 'laws.FnExactCloseFrom': WHATEVER THE INPUT: true; the input reads as it did. -/
def fnExactCloseFromSpec : ChangeSpec := { name := "fnExactCloseFrom", fn := fun _ => fun
  | [d1, d2, d3, d4, d5] => { results := [.lit (.bool true)], args := [d1, d2, d3, d4, d5] }
  | _ => none }
def fnExactCloseFromRow : OpenClaim := { program := "ytgipjfcmgmbcnaa", sum := "88d9847702dfa84204869c24208535e6a8779439236320e23df769e9b70bf420", func := "loop.example/radiointerferometer/laws.FnExactCloseFrom", spec := "fnExactCloseFrom", unfollowed := true, recurses := true, apart := false }
def FnExactCloseFromSaid : Prop := fnExactCloseFromRow.holds Try.pinned (OpenSpec.ofChange fnExactCloseFromSpec)

/-- ITS FALSE NEIGHBOUR: 'it returns false'. Refute it at one input. -/
def fnExactCloseFromWrong : ChangeSpec := { name := "fnExactCloseFrom", fn := fun _ => fun
  | [d1, d2, d3, d4, d5] => { results := [.lit (.bool false)], args := [d1, d2, d3, d4, d5] }
  | _ => none }
def FnExactCloseFromWrongFalsely : Prop := fnExactCloseFromRow.holds Try.pinned (OpenSpec.ofChange fnExactCloseFromWrong)

/-- 'laws.FnCloseVis': WHATEVER THE INPUT: true; the input reads as it did. -/
def fnCloseVisSpec : ChangeSpec := { name := "fnCloseVis", fn := fun _ => fun
  | [d] => { results := [.lit (.bool true)], args := [d] }
  | _ => none }
def fnCloseVisRow : OpenClaim := { program := "ytgipjfcmgmbcnaa", sum := "88d9847702dfa84204869c24208535e6a8779439236320e23df769e9b70bf420", func := "loop.example/radiointerferometer/laws.FnCloseVis", spec := "fnCloseVis", unfollowed := true, recurses := true, apart := false }
def FnCloseVisSaid : Prop := fnCloseVisRow.holds Try.pinned (OpenSpec.ofChange fnCloseVisSpec)

/-- ITS FALSE NEIGHBOUR: 'it returns false'. Refute it at one input. -/
def fnCloseVisWrong : ChangeSpec := { name := "fnCloseVis", fn := fun _ => fun
  | [d] => { results := [.lit (.bool false)], args := [d] }
  | _ => none }
def FnCloseVisWrongFalsely : Prop := fnCloseVisRow.holds Try.pinned (OpenSpec.ofChange fnCloseVisWrong)

/-- 'laws.FnExactCloseBase': WHATEVER THE INPUT: true; the input reads as it did. -/
def fnExactCloseBaseSpec : ChangeSpec := { name := "fnExactCloseBase", fn := fun _ => fun
  | [d1, d2] => { results := [.lit (.bool true)], args := [d1, d2] }
  | _ => none }
def fnExactCloseBaseRow : OpenClaim := { program := "ytgipjfcmgmbcnaa", sum := "88d9847702dfa84204869c24208535e6a8779439236320e23df769e9b70bf420", func := "loop.example/radiointerferometer/laws.FnExactCloseBase", spec := "fnExactCloseBase", unfollowed := true, recurses := true, apart := false }
def FnExactCloseBaseSaid : Prop := fnExactCloseBaseRow.holds Try.pinned (OpenSpec.ofChange fnExactCloseBaseSpec)

/-- ITS FALSE NEIGHBOUR: 'it returns false'. Refute it at one input. -/
def fnExactCloseBaseWrong : ChangeSpec := { name := "fnExactCloseBase", fn := fun _ => fun
  | [d1, d2] => { results := [.lit (.bool false)], args := [d1, d2] }
  | _ => none }
def FnExactCloseBaseWrongFalsely : Prop := fnExactCloseBaseRow.holds Try.pinned (OpenSpec.ofChange fnExactCloseBaseWrong)

/-- 'laws.FnCloseFrom': WHATEVER THE INPUT: true; the input reads as it did. -/
def fnCloseFromSpec : ChangeSpec := { name := "fnCloseFrom", fn := fun _ => fun
  | [d] => { results := [.lit (.bool true)], args := [d] }
  | _ => none }
def fnCloseFromRow : OpenClaim := { program := "ytgipjfcmgmbcnaa", sum := "88d9847702dfa84204869c24208535e6a8779439236320e23df769e9b70bf420", func := "loop.example/radiointerferometer/laws.FnCloseFrom", spec := "fnCloseFrom", unfollowed := true, recurses := true, apart := false }
def FnCloseFromSaid : Prop := fnCloseFromRow.holds Try.pinned (OpenSpec.ofChange fnCloseFromSpec)

/-- ITS FALSE NEIGHBOUR: 'it returns false'. Refute it at one input. -/
def fnCloseFromWrong : ChangeSpec := { name := "fnCloseFrom", fn := fun _ => fun
  | [d] => { results := [.lit (.bool false)], args := [d] }
  | _ => none }
def FnCloseFromWrongFalsely : Prop := fnCloseFromRow.holds Try.pinned (OpenSpec.ofChange fnCloseFromWrong)

/-- 'laws.FnCloseFromFour': WHATEVER THE INPUT: true; the input reads as it did. -/
def fnCloseFromFourSpec : ChangeSpec := { name := "fnCloseFromFour", fn := fun _ => fun
  | [d] => { results := [.lit (.bool true)], args := [d] }
  | _ => none }
def fnCloseFromFourRow : OpenClaim := { program := "ytgipjfcmgmbcnaa", sum := "88d9847702dfa84204869c24208535e6a8779439236320e23df769e9b70bf420", func := "loop.example/radiointerferometer/laws.FnCloseFromFour", spec := "fnCloseFromFour", unfollowed := true, recurses := true, apart := false }
def FnCloseFromFourSaid : Prop := fnCloseFromFourRow.holds Try.pinned (OpenSpec.ofChange fnCloseFromFourSpec)

/-- ITS FALSE NEIGHBOUR: 'it returns false'. Refute it at one input. -/
def fnCloseFromFourWrong : ChangeSpec := { name := "fnCloseFromFour", fn := fun _ => fun
  | [d] => { results := [.lit (.bool false)], args := [d] }
  | _ => none }
def FnCloseFromFourWrongFalsely : Prop := fnCloseFromFourRow.holds Try.pinned (OpenSpec.ofChange fnCloseFromFourWrong)

/-- 'laws.FnCloseFromFirst': WHATEVER THE INPUT: true; the input reads as it did. -/
def fnCloseFromFirstSpec : ChangeSpec := { name := "fnCloseFromFirst", fn := fun _ => fun
  | [d1, d2] => { results := [.lit (.bool true)], args := [d1, d2] }
  | _ => none }
def fnCloseFromFirstRow : OpenClaim := { program := "ytgipjfcmgmbcnaa", sum := "88d9847702dfa84204869c24208535e6a8779439236320e23df769e9b70bf420", func := "loop.example/radiointerferometer/laws.FnCloseFromFirst", spec := "fnCloseFromFirst", unfollowed := true, recurses := true, apart := false }
def FnCloseFromFirstSaid : Prop := fnCloseFromFirstRow.holds Try.pinned (OpenSpec.ofChange fnCloseFromFirstSpec)

/-- ITS FALSE NEIGHBOUR: 'it returns false'. Refute it at one input. -/
def fnCloseFromFirstWrong : ChangeSpec := { name := "fnCloseFromFirst", fn := fun _ => fun
  | [d1, d2] => { results := [.lit (.bool false)], args := [d1, d2] }
  | _ => none }
def FnCloseFromFirstWrongFalsely : Prop := fnCloseFromFirstRow.holds Try.pinned (OpenSpec.ofChange fnCloseFromFirstWrong)

/-- 'laws.FnCloseBase': WHATEVER THE INPUT: true; the input reads as it did. -/
def fnCloseBaseSpec : ChangeSpec := { name := "fnCloseBase", fn := fun _ => fun
  | [d] => { results := [.lit (.bool true)], args := [d] }
  | _ => none }
def fnCloseBaseRow : OpenClaim := { program := "ytgipjfcmgmbcnaa", sum := "88d9847702dfa84204869c24208535e6a8779439236320e23df769e9b70bf420", func := "loop.example/radiointerferometer/laws.FnCloseBase", spec := "fnCloseBase", unfollowed := true, recurses := true, apart := false }
def FnCloseBaseSaid : Prop := fnCloseBaseRow.holds Try.pinned (OpenSpec.ofChange fnCloseBaseSpec)

/-- ITS FALSE NEIGHBOUR: 'it returns false'. Refute it at one input. -/
def fnCloseBaseWrong : ChangeSpec := { name := "fnCloseBase", fn := fun _ => fun
  | [d] => { results := [.lit (.bool false)], args := [d] }
  | _ => none }
def FnCloseBaseWrongFalsely : Prop := fnCloseBaseRow.holds Try.pinned (OpenSpec.ofChange fnCloseBaseWrong)

/-- 'laws.FnCloseFromVis': WHATEVER THE INPUT: true; the input reads as it did. -/
def fnCloseFromVisSpec : ChangeSpec := { name := "fnCloseFromVis", fn := fun _ => fun
  | [d] => { results := [.lit (.bool true)], args := [d] }
  | _ => none }
def fnCloseFromVisRow : OpenClaim := { program := "ytgipjfcmgmbcnaa", sum := "88d9847702dfa84204869c24208535e6a8779439236320e23df769e9b70bf420", func := "loop.example/radiointerferometer/laws.FnCloseFromVis", spec := "fnCloseFromVis", unfollowed := true, recurses := true, apart := false }
def FnCloseFromVisSaid : Prop := fnCloseFromVisRow.holds Try.pinned (OpenSpec.ofChange fnCloseFromVisSpec)

/-- ITS FALSE NEIGHBOUR: 'it returns false'. Refute it at one input. -/
def fnCloseFromVisWrong : ChangeSpec := { name := "fnCloseFromVis", fn := fun _ => fun
  | [d] => { results := [.lit (.bool false)], args := [d] }
  | _ => none }
def FnCloseFromVisWrongFalsely : Prop := fnCloseFromVisRow.holds Try.pinned (OpenSpec.ofChange fnCloseFromVisWrong)

/-- 'laws.FnCloseVisSame': WHATEVER THE INPUT: true; the input reads as it did. -/
def fnCloseVisSameSpec : ChangeSpec := { name := "fnCloseVisSame", fn := fun _ => fun
  | [d1, d2] => { results := [.lit (.bool true)], args := [d1, d2] }
  | _ => none }
def fnCloseVisSameRow : OpenClaim := { program := "ytgipjfcmgmbcnaa", sum := "88d9847702dfa84204869c24208535e6a8779439236320e23df769e9b70bf420", func := "loop.example/radiointerferometer/laws.FnCloseVisSame", spec := "fnCloseVisSame", unfollowed := true, recurses := true, apart := false }
def FnCloseVisSameSaid : Prop := fnCloseVisSameRow.holds Try.pinned (OpenSpec.ofChange fnCloseVisSameSpec)

/-- ITS FALSE NEIGHBOUR: 'it returns false'. Refute it at one input. -/
def fnCloseVisSameWrong : ChangeSpec := { name := "fnCloseVisSame", fn := fun _ => fun
  | [d1, d2] => { results := [.lit (.bool false)], args := [d1, d2] }
  | _ => none }
def FnCloseVisSameWrongFalsely : Prop := fnCloseVisSameRow.holds Try.pinned (OpenSpec.ofChange fnCloseVisSameWrong)

/-- 'laws.FnCloseFromBase': WHATEVER THE INPUT: true; the input reads as it did. -/
def fnCloseFromBaseSpec : ChangeSpec := { name := "fnCloseFromBase", fn := fun _ => fun
  | [d1, d2] => { results := [.lit (.bool true)], args := [d1, d2] }
  | _ => none }
def fnCloseFromBaseRow : OpenClaim := { program := "ytgipjfcmgmbcnaa", sum := "88d9847702dfa84204869c24208535e6a8779439236320e23df769e9b70bf420", func := "loop.example/radiointerferometer/laws.FnCloseFromBase", spec := "fnCloseFromBase", unfollowed := true, recurses := true, apart := false }
def FnCloseFromBaseSaid : Prop := fnCloseFromBaseRow.holds Try.pinned (OpenSpec.ofChange fnCloseFromBaseSpec)

/-- ITS FALSE NEIGHBOUR: 'it returns false'. Refute it at one input. -/
def fnCloseFromBaseWrong : ChangeSpec := { name := "fnCloseFromBase", fn := fun _ => fun
  | [d1, d2] => { results := [.lit (.bool false)], args := [d1, d2] }
  | _ => none }
def FnCloseFromBaseWrongFalsely : Prop := fnCloseFromBaseRow.holds Try.pinned (OpenSpec.ofChange fnCloseFromBaseWrong)

/-- 'laws.FnCloseAmpValue': WHATEVER THE INPUT: true; the input reads as it did. -/
def fnCloseAmpValueSpec : ChangeSpec := { name := "fnCloseAmpValue", fn := fun _ => fun
  | [d] => { results := [.lit (.bool true)], args := [d] }
  | _ => none }
def fnCloseAmpValueRow : OpenClaim := { program := "ytgipjfcmgmbcnaa", sum := "88d9847702dfa84204869c24208535e6a8779439236320e23df769e9b70bf420", func := "loop.example/radiointerferometer/laws.FnCloseAmpValue", spec := "fnCloseAmpValue", unfollowed := true, recurses := true, apart := false }
def FnCloseAmpValueSaid : Prop := fnCloseAmpValueRow.holds Try.pinned (OpenSpec.ofChange fnCloseAmpValueSpec)

/-- ITS FALSE NEIGHBOUR: 'it returns false'. Refute it at one input. -/
def fnCloseAmpValueWrong : ChangeSpec := { name := "fnCloseAmpValue", fn := fun _ => fun
  | [d] => { results := [.lit (.bool false)], args := [d] }
  | _ => none }
def FnCloseAmpValueWrongFalsely : Prop := fnCloseAmpValueRow.holds Try.pinned (OpenSpec.ofChange fnCloseAmpValueWrong)

/-- 'laws.FnExactCloseSame': WHATEVER THE INPUT: true; the input reads as it did. -/
def fnExactCloseSameSpec : ChangeSpec := { name := "fnExactCloseSame", fn := fun _ => fun
  | [d1, d2, d3] => { results := [.lit (.bool true)], args := [d1, d2, d3] }
  | _ => none }
def fnExactCloseSameRow : OpenClaim := { program := "ytgipjfcmgmbcnaa", sum := "88d9847702dfa84204869c24208535e6a8779439236320e23df769e9b70bf420", func := "loop.example/radiointerferometer/laws.FnExactCloseSame", spec := "fnExactCloseSame", unfollowed := true, recurses := true, apart := false }
def FnExactCloseSameSaid : Prop := fnExactCloseSameRow.holds Try.pinned (OpenSpec.ofChange fnExactCloseSameSpec)

/-- ITS FALSE NEIGHBOUR: 'it returns false'. Refute it at one input. -/
def fnExactCloseSameWrong : ChangeSpec := { name := "fnExactCloseSame", fn := fun _ => fun
  | [d1, d2, d3] => { results := [.lit (.bool false)], args := [d1, d2, d3] }
  | _ => none }
def FnExactCloseSameWrongFalsely : Prop := fnExactCloseSameRow.holds Try.pinned (OpenSpec.ofChange fnExactCloseSameWrong)

/- THE SECOND FORM. 'bulk': how many values and letters a reading holds, each counted each time it is reached (what is shared counts as often as it is met; a slice's spare places count too). A statement '..UptoSaid' is the law's where the arguments, and the package variables that the reading takes, are together of bulk at most 1048576: NARROWER than '..Said'. Prove '..Said' where nothing that the law and all that it calls make is longer than what came in: it says more and counts as full. Else prove '..UptoSaid'. A law counts once. -/
mutual
def uptoBulk {H : Type} : DataW H → Nat
  | .lit (.string bytes) => bytes.length + 1
  | .lit _ => 1
  | .nil => 1
  | .ptr d => uptoBulk d + 1
  | .slice elems spare => uptoBulkAll elems + uptoBulkAll spare + 1
  | .agg parts => uptoBulkAll parts + 1
  | .iface _ d => uptoBulk d + 1
  | .map entries => uptoBulkEntries entries + 1
  | .held _ => 1
def uptoBulkAll {H : Type} : List (DataW H) → Nat
  | [] => 0
  | d :: r => uptoBulk d + uptoBulkAll r
def uptoBulkEntries {H : Type} : List (Lit × DataW H) → Nat
  | [] => 0
  | x :: r => uptoBulkEntry x + uptoBulkEntries r
def uptoBulkEntry {H : Type} : Lit × DataW H → Nat
  | (.string bytes, d) => bytes.length + uptoBulk d + 1
  | (_, d) => uptoBulk d + 1
 end
def uptoSmall : (H : Type) → List (DataW H) → Bool := fun _ ds => decide (uptoBulkAll ds ≤ 1048576)
def OpenSpec.upto (s : _root_.Go.ChangeSpec) : _root_.Go.OpenSpec := { _root_.Go.OpenSpec.ofChange s with cond := some uptoSmall }

/-- 'laws.FnExactCloseFrom', WHERE WHAT IT READS IS OF BULK AT MOST 1048576: true; the input reads as it did. -/
def fnExactCloseFromUptoRow : OpenClaim := { program := "ytgipjfcmgmbcnaa", sum := "88d9847702dfa84204869c24208535e6a8779439236320e23df769e9b70bf420", func := "loop.example/radiointerferometer/laws.FnExactCloseFrom", spec := "fnExactCloseFrom", unfollowed := true, recurses := true, apart := false, narrowed := true }
def FnExactCloseFromUptoSaid : Prop := fnExactCloseFromUptoRow.holds Try.pinned (OpenSpec.upto fnExactCloseFromSpec)

/-- 'laws.FnCloseVis', WHERE WHAT IT READS IS OF BULK AT MOST 1048576: true; the input reads as it did. -/
def fnCloseVisUptoRow : OpenClaim := { program := "ytgipjfcmgmbcnaa", sum := "88d9847702dfa84204869c24208535e6a8779439236320e23df769e9b70bf420", func := "loop.example/radiointerferometer/laws.FnCloseVis", spec := "fnCloseVis", unfollowed := true, recurses := true, apart := false, narrowed := true }
def FnCloseVisUptoSaid : Prop := fnCloseVisUptoRow.holds Try.pinned (OpenSpec.upto fnCloseVisSpec)

/-- 'laws.FnExactCloseBase', WHERE WHAT IT READS IS OF BULK AT MOST 1048576: true; the input reads as it did. -/
def fnExactCloseBaseUptoRow : OpenClaim := { program := "ytgipjfcmgmbcnaa", sum := "88d9847702dfa84204869c24208535e6a8779439236320e23df769e9b70bf420", func := "loop.example/radiointerferometer/laws.FnExactCloseBase", spec := "fnExactCloseBase", unfollowed := true, recurses := true, apart := false, narrowed := true }
def FnExactCloseBaseUptoSaid : Prop := fnExactCloseBaseUptoRow.holds Try.pinned (OpenSpec.upto fnExactCloseBaseSpec)

/-- 'laws.FnCloseFrom', WHERE WHAT IT READS IS OF BULK AT MOST 1048576: true; the input reads as it did. -/
def fnCloseFromUptoRow : OpenClaim := { program := "ytgipjfcmgmbcnaa", sum := "88d9847702dfa84204869c24208535e6a8779439236320e23df769e9b70bf420", func := "loop.example/radiointerferometer/laws.FnCloseFrom", spec := "fnCloseFrom", unfollowed := true, recurses := true, apart := false, narrowed := true }
def FnCloseFromUptoSaid : Prop := fnCloseFromUptoRow.holds Try.pinned (OpenSpec.upto fnCloseFromSpec)

/-- 'laws.FnCloseFromFour', WHERE WHAT IT READS IS OF BULK AT MOST 1048576: true; the input reads as it did. -/
def fnCloseFromFourUptoRow : OpenClaim := { program := "ytgipjfcmgmbcnaa", sum := "88d9847702dfa84204869c24208535e6a8779439236320e23df769e9b70bf420", func := "loop.example/radiointerferometer/laws.FnCloseFromFour", spec := "fnCloseFromFour", unfollowed := true, recurses := true, apart := false, narrowed := true }
def FnCloseFromFourUptoSaid : Prop := fnCloseFromFourUptoRow.holds Try.pinned (OpenSpec.upto fnCloseFromFourSpec)

/-- 'laws.FnCloseFromFirst', WHERE WHAT IT READS IS OF BULK AT MOST 1048576: true; the input reads as it did. -/
def fnCloseFromFirstUptoRow : OpenClaim := { program := "ytgipjfcmgmbcnaa", sum := "88d9847702dfa84204869c24208535e6a8779439236320e23df769e9b70bf420", func := "loop.example/radiointerferometer/laws.FnCloseFromFirst", spec := "fnCloseFromFirst", unfollowed := true, recurses := true, apart := false, narrowed := true }
def FnCloseFromFirstUptoSaid : Prop := fnCloseFromFirstUptoRow.holds Try.pinned (OpenSpec.upto fnCloseFromFirstSpec)

/-- 'laws.FnCloseBase', WHERE WHAT IT READS IS OF BULK AT MOST 1048576: true; the input reads as it did. -/
def fnCloseBaseUptoRow : OpenClaim := { program := "ytgipjfcmgmbcnaa", sum := "88d9847702dfa84204869c24208535e6a8779439236320e23df769e9b70bf420", func := "loop.example/radiointerferometer/laws.FnCloseBase", spec := "fnCloseBase", unfollowed := true, recurses := true, apart := false, narrowed := true }
def FnCloseBaseUptoSaid : Prop := fnCloseBaseUptoRow.holds Try.pinned (OpenSpec.upto fnCloseBaseSpec)

/-- 'laws.FnCloseFromVis', WHERE WHAT IT READS IS OF BULK AT MOST 1048576: true; the input reads as it did. -/
def fnCloseFromVisUptoRow : OpenClaim := { program := "ytgipjfcmgmbcnaa", sum := "88d9847702dfa84204869c24208535e6a8779439236320e23df769e9b70bf420", func := "loop.example/radiointerferometer/laws.FnCloseFromVis", spec := "fnCloseFromVis", unfollowed := true, recurses := true, apart := false, narrowed := true }
def FnCloseFromVisUptoSaid : Prop := fnCloseFromVisUptoRow.holds Try.pinned (OpenSpec.upto fnCloseFromVisSpec)

/-- 'laws.FnCloseVisSame', WHERE WHAT IT READS IS OF BULK AT MOST 1048576: true; the input reads as it did. -/
def fnCloseVisSameUptoRow : OpenClaim := { program := "ytgipjfcmgmbcnaa", sum := "88d9847702dfa84204869c24208535e6a8779439236320e23df769e9b70bf420", func := "loop.example/radiointerferometer/laws.FnCloseVisSame", spec := "fnCloseVisSame", unfollowed := true, recurses := true, apart := false, narrowed := true }
def FnCloseVisSameUptoSaid : Prop := fnCloseVisSameUptoRow.holds Try.pinned (OpenSpec.upto fnCloseVisSameSpec)

/-- 'laws.FnCloseFromBase', WHERE WHAT IT READS IS OF BULK AT MOST 1048576: true; the input reads as it did. -/
def fnCloseFromBaseUptoRow : OpenClaim := { program := "ytgipjfcmgmbcnaa", sum := "88d9847702dfa84204869c24208535e6a8779439236320e23df769e9b70bf420", func := "loop.example/radiointerferometer/laws.FnCloseFromBase", spec := "fnCloseFromBase", unfollowed := true, recurses := true, apart := false, narrowed := true }
def FnCloseFromBaseUptoSaid : Prop := fnCloseFromBaseUptoRow.holds Try.pinned (OpenSpec.upto fnCloseFromBaseSpec)

/-- 'laws.FnCloseAmpValue', WHERE WHAT IT READS IS OF BULK AT MOST 1048576: true; the input reads as it did. -/
def fnCloseAmpValueUptoRow : OpenClaim := { program := "ytgipjfcmgmbcnaa", sum := "88d9847702dfa84204869c24208535e6a8779439236320e23df769e9b70bf420", func := "loop.example/radiointerferometer/laws.FnCloseAmpValue", spec := "fnCloseAmpValue", unfollowed := true, recurses := true, apart := false, narrowed := true }
def FnCloseAmpValueUptoSaid : Prop := fnCloseAmpValueUptoRow.holds Try.pinned (OpenSpec.upto fnCloseAmpValueSpec)

/-- 'laws.FnExactCloseSame', WHERE WHAT IT READS IS OF BULK AT MOST 1048576: true; the input reads as it did. -/
def fnExactCloseSameUptoRow : OpenClaim := { program := "ytgipjfcmgmbcnaa", sum := "88d9847702dfa84204869c24208535e6a8779439236320e23df769e9b70bf420", func := "loop.example/radiointerferometer/laws.FnExactCloseSame", spec := "fnExactCloseSame", unfollowed := true, recurses := true, apart := false, narrowed := true }
def FnExactCloseSameUptoSaid : Prop := fnExactCloseSameUptoRow.holds Try.pinned (OpenSpec.upto fnExactCloseSameSpec)

end Rows
end Go.Proofs.Ytgipjfcmgmbcnaa
