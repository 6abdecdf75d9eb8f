/-
  No cell of these rows narrows 'for every input' (looked for: loops, veiled, ifaces, maps, wideKeys, modest, calm, conditions, laid).
  DERIVED. THE GIVEN ROWS OF THIS SEAT. 12 by the template 'for every input the law returns true; each argument reads behind the call as it read before'; 0 by the template 'total and deterministic' (their statements: YthfljdamahmkaaaTotals.lean).
  GIVEN WITH THE SEED: the statements are not yours to turn. If you find one false, say at which input.
  Laid BY PROGRAM, IN A SANDBOX (cutbox-rows.mjs): the forced cells as the released guide's own fill.sh prints them over the translation 263b85ceed2d92b6… (all of the seat's roots in one cut). By AI agents, Wed Nov 11 2026. No macro, syntax, notation, axiom, sorry.
-/
import Derived.Test.YthfljdamahmkaaaChecked
import GoSem.Claim
import GoSem.ClaimJoined
import GoSem.ClaimMapViews
import Derived.JoinedTies
import Derived.KernelRfl
namespace Go.Proofs.Ythfljdamahmkaaa
/- THE CELL 'sum', in the pinned program and in every row, IS THE sha256 OF THE DUMP (.gsa) THAT YthfljdamahmkaaaProg.lean LOADS. Nothing in Lean hashes anything: it is a label: what it is worth is what the hold of that sum in a sandbox is worth. -/
noncomputable def Try.pinned : Pinned := { name := "ythfljdamahmkaaa", sum := "263b85ceed2d92b652d4de33c9fb6b223eb0a56fa5acb90f6bf0c2c0ad212d40", checked := Try.checked }
namespace Rows
def none {H : Type} : Left H := { results := [], args := [] }

/-- 'laws.FnVisPhases': WHATEVER THE INPUT: true; the input reads as it did. -/
def fnVisPhasesSpec : ChangeSpec := { name := "fnVisPhases", fn := fun _ => fun
  | [d1, d2] => { results := [.lit (.bool true)], args := [d1, d2] }
  | _ => none }
def fnVisPhasesRow : OpenClaim := { program := "ythfljdamahmkaaa", sum := "263b85ceed2d92b652d4de33c9fb6b223eb0a56fa5acb90f6bf0c2c0ad212d40", func := "loop.example/radiointerferometer/laws.FnVisPhases", spec := "fnVisPhases", unfollowed := true, recurses := true, apart := false }
def FnVisPhasesSaid : Prop := fnVisPhasesRow.holds Try.pinned (OpenSpec.ofChange fnVisPhasesSpec)

/-- ITS FALSE NEIGHBOUR: 'it returns false'. Refute it at one input. -/
def fnVisPhasesWrong : ChangeSpec := { name := "fnVisPhases", fn := fun _ => fun
  | [d1, d2] => { results := [.lit (.bool false)], args := [d1, d2] }
  | _ => none }
def FnVisPhasesWrongFalsely : Prop := fnVisPhasesRow.holds Try.pinned (OpenSpec.ofChange fnVisPhasesWrong)

/-- 'laws.FnExactClosePhase': WHATEVER THE INPUT: true; the input reads as it did. -/
def fnExactClosePhaseSpec : ChangeSpec := { name := "fnExactClosePhase", fn := fun _ => fun
  | [d1, d2, d3, d4, d5] => { results := [.lit (.bool true)], args := [d1, d2, d3, d4, d5] }
  | _ => none }
def fnExactClosePhaseRow : OpenClaim := { program := "ythfljdamahmkaaa", sum := "263b85ceed2d92b652d4de33c9fb6b223eb0a56fa5acb90f6bf0c2c0ad212d40", func := "loop.example/radiointerferometer/laws.FnExactClosePhase", spec := "fnExactClosePhase", apart := false }
def FnExactClosePhaseSaid : Prop := fnExactClosePhaseRow.holds Try.pinned (OpenSpec.ofChange fnExactClosePhaseSpec)

/-- ITS FALSE NEIGHBOUR: 'it returns false'. Refute it at one input. -/
def fnExactClosePhaseWrong : ChangeSpec := { name := "fnExactClosePhase", fn := fun _ => fun
  | [d1, d2, d3, d4, d5] => { results := [.lit (.bool false)], args := [d1, d2, d3, d4, d5] }
  | _ => none }
def FnExactClosePhaseWrongFalsely : Prop := fnExactClosePhaseRow.holds Try.pinned (OpenSpec.ofChange fnExactClosePhaseWrong)

/-- 'laws.FnExactCloseLoop': WHATEVER THE INPUT: true; the input reads as it did. -/
def fnExactCloseLoopSpec : ChangeSpec := { name := "fnExactCloseLoop", fn := fun _ => fun
  | [d1, d2, d3] => { results := [.lit (.bool true)], args := [d1, d2, d3] }
  | _ => none }
def fnExactCloseLoopRow : OpenClaim := { program := "ythfljdamahmkaaa", sum := "263b85ceed2d92b652d4de33c9fb6b223eb0a56fa5acb90f6bf0c2c0ad212d40", func := "loop.example/radiointerferometer/laws.FnExactCloseLoop", spec := "fnExactCloseLoop", apart := false }
def FnExactCloseLoopSaid : Prop := fnExactCloseLoopRow.holds Try.pinned (OpenSpec.ofChange fnExactCloseLoopSpec)

/-- ITS FALSE NEIGHBOUR: 'it returns false'. Refute it at one input. -/
def fnExactCloseLoopWrong : ChangeSpec := { name := "fnExactCloseLoop", fn := fun _ => fun
  | [d1, d2, d3] => { results := [.lit (.bool false)], args := [d1, d2, d3] }
  | _ => none }
def FnExactCloseLoopWrongFalsely : Prop := fnExactCloseLoopRow.holds Try.pinned (OpenSpec.ofChange fnExactCloseLoopWrong)

/-- 'laws.FnExactVisSwap': WHATEVER THE INPUT: true; the input reads as it did. -/
def fnExactVisSwapSpec : ChangeSpec := { name := "fnExactVisSwap", fn := fun _ => fun
  | [d1, d2, d3, d4] => { results := [.lit (.bool true)], args := [d1, d2, d3, d4] }
  | _ => none }
def fnExactVisSwapRow : OpenClaim := { program := "ythfljdamahmkaaa", sum := "263b85ceed2d92b652d4de33c9fb6b223eb0a56fa5acb90f6bf0c2c0ad212d40", func := "loop.example/radiointerferometer/laws.FnExactVisSwap", spec := "fnExactVisSwap", unfollowed := true, recurses := true, apart := false }
def FnExactVisSwapSaid : Prop := fnExactVisSwapRow.holds Try.pinned (OpenSpec.ofChange fnExactVisSwapSpec)

/-- ITS FALSE NEIGHBOUR: 'it returns false'. Refute it at one input. -/
def fnExactVisSwapWrong : ChangeSpec := { name := "fnExactVisSwap", fn := fun _ => fun
  | [d1, d2, d3, d4] => { results := [.lit (.bool false)], args := [d1, d2, d3, d4] }
  | _ => none }
def FnExactVisSwapWrongFalsely : Prop := fnExactVisSwapRow.holds Try.pinned (OpenSpec.ofChange fnExactVisSwapWrong)

/-- 'laws.FnSwap': WHATEVER THE INPUT: true; the input reads as it did. -/
def fnSwapSpec : ChangeSpec := { name := "fnSwap", fn := fun _ => fun
  | [d] => { results := [.lit (.bool true)], args := [d] }
  | _ => none }
def fnSwapRow : OpenClaim := { program := "ythfljdamahmkaaa", sum := "263b85ceed2d92b652d4de33c9fb6b223eb0a56fa5acb90f6bf0c2c0ad212d40", func := "loop.example/radiointerferometer/laws.FnSwap", spec := "fnSwap", unfollowed := true, recurses := true, apart := false }
def FnSwapSaid : Prop := fnSwapRow.holds Try.pinned (OpenSpec.ofChange fnSwapSpec)

/-- ITS FALSE NEIGHBOUR: 'it returns false'. Refute it at one input. -/
def fnSwapWrong : ChangeSpec := { name := "fnSwap", fn := fun _ => fun
  | [d] => { results := [.lit (.bool false)], args := [d] }
  | _ => none }
def FnSwapWrongFalsely : Prop := fnSwapRow.holds Try.pinned (OpenSpec.ofChange fnSwapWrong)

/-- 'laws.FnSwapGet': WHATEVER THE INPUT: true; the input reads as it did. -/
def fnSwapGetSpec : ChangeSpec := { name := "fnSwapGet", fn := fun _ => fun
  | [d1, d2] => { results := [.lit (.bool true)], args := [d1, d2] }
  | _ => none }
def fnSwapGetRow : OpenClaim := { program := "ythfljdamahmkaaa", sum := "263b85ceed2d92b652d4de33c9fb6b223eb0a56fa5acb90f6bf0c2c0ad212d40", func := "loop.example/radiointerferometer/laws.FnSwapGet", spec := "fnSwapGet", unfollowed := true, recurses := true, apart := false }
def FnSwapGetSaid : Prop := fnSwapGetRow.holds Try.pinned (OpenSpec.ofChange fnSwapGetSpec)

/-- ITS FALSE NEIGHBOUR: 'it returns false'. Refute it at one input. -/
def fnSwapGetWrong : ChangeSpec := { name := "fnSwapGet", fn := fun _ => fun
  | [d1, d2] => { results := [.lit (.bool false)], args := [d1, d2] }
  | _ => none }
def FnSwapGetWrongFalsely : Prop := fnSwapGetRow.holds Try.pinned (OpenSpec.ofChange fnSwapGetWrong)

/-- 'laws.FnCloseLoopCut': WHATEVER THE INPUT: true; the input reads as it did. -/
def fnCloseLoopCutSpec : ChangeSpec := { name := "fnCloseLoopCut", fn := fun _ => fun
  | [d] => { results := [.lit (.bool true)], args := [d] }
  | _ => none }
def fnCloseLoopCutRow : OpenClaim := { program := "ythfljdamahmkaaa", sum := "263b85ceed2d92b652d4de33c9fb6b223eb0a56fa5acb90f6bf0c2c0ad212d40", func := "loop.example/radiointerferometer/laws.FnCloseLoopCut", spec := "fnCloseLoopCut", apart := false }
def FnCloseLoopCutSaid : Prop := fnCloseLoopCutRow.holds Try.pinned (OpenSpec.ofChange fnCloseLoopCutSpec)

/-- ITS FALSE NEIGHBOUR: 'it returns false'. Refute it at one input. -/
def fnCloseLoopCutWrong : ChangeSpec := { name := "fnCloseLoopCut", fn := fun _ => fun
  | [d] => { results := [.lit (.bool false)], args := [d] }
  | _ => none }
def FnCloseLoopCutWrongFalsely : Prop := fnCloseLoopCutRow.holds Try.pinned (OpenSpec.ofChange fnCloseLoopCutWrong)

/-- 'laws.FnCloseLoopTurn': WHATEVER THE INPUT: true; the input reads as it did. -/
def fnCloseLoopTurnSpec : ChangeSpec := { name := "fnCloseLoopTurn", fn := fun _ => fun
  | [d] => { results := [.lit (.bool true)], args := [d] }
  | _ => none }
def fnCloseLoopTurnRow : OpenClaim := { program := "ythfljdamahmkaaa", sum := "263b85ceed2d92b652d4de33c9fb6b223eb0a56fa5acb90f6bf0c2c0ad212d40", func := "loop.example/radiointerferometer/laws.FnCloseLoopTurn", spec := "fnCloseLoopTurn", apart := false }
def FnCloseLoopTurnSaid : Prop := fnCloseLoopTurnRow.holds Try.pinned (OpenSpec.ofChange fnCloseLoopTurnSpec)

/-- ITS FALSE NEIGHBOUR: 'it returns false'. Refute it at one input. -/
def fnCloseLoopTurnWrong : ChangeSpec := { name := "fnCloseLoopTurn", fn := fun _ => fun
  | [d] => { results := [.lit (.bool false)], args := [d] }
  | _ => none }
def FnCloseLoopTurnWrongFalsely : Prop := fnCloseLoopTurnRow.holds Try.pinned (OpenSpec.ofChange fnCloseLoopTurnWrong)

/-- 'laws.FnCloseFour': WHATEVER THE INPUT: true; the input reads as it did. -/
def fnCloseFourSpec : ChangeSpec := { name := "fnCloseFour", fn := fun _ => fun
  | [d] => { results := [.lit (.bool true)], args := [d] }
  | _ => none }
def fnCloseFourRow : OpenClaim := { program := "ythfljdamahmkaaa", sum := "263b85ceed2d92b652d4de33c9fb6b223eb0a56fa5acb90f6bf0c2c0ad212d40", func := "loop.example/radiointerferometer/laws.FnCloseFour", spec := "fnCloseFour", apart := false }
def FnCloseFourSaid : Prop := fnCloseFourRow.holds Try.pinned (OpenSpec.ofChange fnCloseFourSpec)

/-- ITS FALSE NEIGHBOUR: 'it returns false'. Refute it at one input. -/
def fnCloseFourWrong : ChangeSpec := { name := "fnCloseFour", fn := fun _ => fun
  | [d] => { results := [.lit (.bool false)], args := [d] }
  | _ => none }
def FnCloseFourWrongFalsely : Prop := fnCloseFourRow.holds Try.pinned (OpenSpec.ofChange fnCloseFourWrong)

/-- 'laws.FnClosePhase': WHATEVER THE INPUT: true; the input reads as it did. -/
def fnClosePhaseSpec : ChangeSpec := { name := "fnClosePhase", fn := fun _ => fun
  | [d] => { results := [.lit (.bool true)], args := [d] }
  | _ => none }
def fnClosePhaseRow : OpenClaim := { program := "ythfljdamahmkaaa", sum := "263b85ceed2d92b652d4de33c9fb6b223eb0a56fa5acb90f6bf0c2c0ad212d40", func := "loop.example/radiointerferometer/laws.FnClosePhase", spec := "fnClosePhase", apart := false }
def FnClosePhaseSaid : Prop := fnClosePhaseRow.holds Try.pinned (OpenSpec.ofChange fnClosePhaseSpec)

/-- ITS FALSE NEIGHBOUR: 'it returns false'. Refute it at one input. -/
def fnClosePhaseWrong : ChangeSpec := { name := "fnClosePhase", fn := fun _ => fun
  | [d] => { results := [.lit (.bool false)], args := [d] }
  | _ => none }
def FnClosePhaseWrongFalsely : Prop := fnClosePhaseRow.holds Try.pinned (OpenSpec.ofChange fnClosePhaseWrong)

/-- 'laws.FnCloseLoop': WHATEVER THE INPUT: true; the input reads as it did. -/
def fnCloseLoopSpec : ChangeSpec := { name := "fnCloseLoop", fn := fun _ => fun
  | [d] => { results := [.lit (.bool true)], args := [d] }
  | _ => none }
def fnCloseLoopRow : OpenClaim := { program := "ythfljdamahmkaaa", sum := "263b85ceed2d92b652d4de33c9fb6b223eb0a56fa5acb90f6bf0c2c0ad212d40", func := "loop.example/radiointerferometer/laws.FnCloseLoop", spec := "fnCloseLoop", apart := false }
def FnCloseLoopSaid : Prop := fnCloseLoopRow.holds Try.pinned (OpenSpec.ofChange fnCloseLoopSpec)

/-- ITS FALSE NEIGHBOUR: 'it returns false'. Refute it at one input. -/
def fnCloseLoopWrong : ChangeSpec := { name := "fnCloseLoop", fn := fun _ => fun
  | [d] => { results := [.lit (.bool false)], args := [d] }
  | _ => none }
def FnCloseLoopWrongFalsely : Prop := fnCloseLoopRow.holds Try.pinned (OpenSpec.ofChange fnCloseLoopWrong)

/-- 'laws.FnCloseSwap': WHATEVER THE INPUT: true; the input reads as it did. -/
def fnCloseSwapSpec : ChangeSpec := { name := "fnCloseSwap", fn := fun _ => fun
  | [d] => { results := [.lit (.bool true)], args := [d] }
  | _ => none }
def fnCloseSwapRow : OpenClaim := { program := "ythfljdamahmkaaa", sum := "263b85ceed2d92b652d4de33c9fb6b223eb0a56fa5acb90f6bf0c2c0ad212d40", func := "loop.example/radiointerferometer/laws.FnCloseSwap", spec := "fnCloseSwap", unfollowed := true, recurses := true, apart := false }
def FnCloseSwapSaid : Prop := fnCloseSwapRow.holds Try.pinned (OpenSpec.ofChange fnCloseSwapSpec)

/-- ITS FALSE NEIGHBOUR: 'it returns false'. Refute it at one input. -/
def fnCloseSwapWrong : ChangeSpec := { name := "fnCloseSwap", fn := fun _ => fun
  | [d] => { results := [.lit (.bool false)], args := [d] }
  | _ => none }
def FnCloseSwapWrongFalsely : Prop := fnCloseSwapRow.holds Try.pinned (OpenSpec.ofChange fnCloseSwapWrong)

/- THE SECOND FORM. 'bulk': how many values and letters a reading holds, each counted each time it is reached (what is shared counts as often as it is met; a slice's spare places count too). A statement '..UptoSaid' is the law's where the arguments, and the package variables that the reading takes, are together of bulk at most 1048576: NARROWER than '..Said'. Prove '..Said' where nothing that the law and all that it calls make is longer than what came in: it says more and counts as full. Else prove '..UptoSaid'. A law counts once. -/
mutual
def uptoBulk {H : Type} : DataW H → Nat
  | .lit (.string bytes) => bytes.length + 1
  | .lit _ => 1
  | .nil => 1
  | .ptr d => uptoBulk d + 1
  | .slice elems spare => uptoBulkAll elems + uptoBulkAll spare + 1
  | .agg parts => uptoBulkAll parts + 1
  | .iface _ d => uptoBulk d + 1
  | .map entries => uptoBulkEntries entries + 1
  | .held _ => 1
def uptoBulkAll {H : Type} : List (DataW H) → Nat
  | [] => 0
  | d :: r => uptoBulk d + uptoBulkAll r
def uptoBulkEntries {H : Type} : List (Lit × DataW H) → Nat
  | [] => 0
  | x :: r => uptoBulkEntry x + uptoBulkEntries r
def uptoBulkEntry {H : Type} : Lit × DataW H → Nat
  | (.string bytes, d) => bytes.length + uptoBulk d + 1
  | (_, d) => uptoBulk d + 1
 end
def uptoSmall : (H : Type) → List (DataW H) → Bool := fun _ ds => decide (uptoBulkAll ds ≤ 1048576)
def OpenSpec.upto (s : _root_.Go.ChangeSpec) : _root_.Go.OpenSpec := { _root_.Go.OpenSpec.ofChange s with cond := some uptoSmall }

/-- 'laws.FnVisPhases', WHERE WHAT IT READS IS OF BULK AT MOST 1048576: true; the input reads as it did. -/
def fnVisPhasesUptoRow : OpenClaim := { program := "ythfljdamahmkaaa", sum := "263b85ceed2d92b652d4de33c9fb6b223eb0a56fa5acb90f6bf0c2c0ad212d40", func := "loop.example/radiointerferometer/laws.FnVisPhases", spec := "fnVisPhases", unfollowed := true, recurses := true, apart := false, narrowed := true }
def FnVisPhasesUptoSaid : Prop := fnVisPhasesUptoRow.holds Try.pinned (OpenSpec.upto fnVisPhasesSpec)

/-- 'laws.FnExactClosePhase', WHERE WHAT IT READS IS OF BULK AT MOST 1048576: true; the input reads as it did. -/
def fnExactClosePhaseUptoRow : OpenClaim := { program := "ythfljdamahmkaaa", sum := "263b85ceed2d92b652d4de33c9fb6b223eb0a56fa5acb90f6bf0c2c0ad212d40", func := "loop.example/radiointerferometer/laws.FnExactClosePhase", spec := "fnExactClosePhase", apart := false, narrowed := true }
def FnExactClosePhaseUptoSaid : Prop := fnExactClosePhaseUptoRow.holds Try.pinned (OpenSpec.upto fnExactClosePhaseSpec)

/-- 'laws.FnExactCloseLoop', WHERE WHAT IT READS IS OF BULK AT MOST 1048576: true; the input reads as it did. -/
def fnExactCloseLoopUptoRow : OpenClaim := { program := "ythfljdamahmkaaa", sum := "263b85ceed2d92b652d4de33c9fb6b223eb0a56fa5acb90f6bf0c2c0ad212d40", func := "loop.example/radiointerferometer/laws.FnExactCloseLoop", spec := "fnExactCloseLoop", apart := false, narrowed := true }
def FnExactCloseLoopUptoSaid : Prop := fnExactCloseLoopUptoRow.holds Try.pinned (OpenSpec.upto fnExactCloseLoopSpec)

/-- 'laws.FnExactVisSwap', WHERE WHAT IT READS IS OF BULK AT MOST 1048576: true; the input reads as it did. -/
def fnExactVisSwapUptoRow : OpenClaim := { program := "ythfljdamahmkaaa", sum := "263b85ceed2d92b652d4de33c9fb6b223eb0a56fa5acb90f6bf0c2c0ad212d40", func := "loop.example/radiointerferometer/laws.FnExactVisSwap", spec := "fnExactVisSwap", unfollowed := true, recurses := true, apart := false, narrowed := true }
def FnExactVisSwapUptoSaid : Prop := fnExactVisSwapUptoRow.holds Try.pinned (OpenSpec.upto fnExactVisSwapSpec)

/-- 'laws.FnSwap', WHERE WHAT IT READS IS OF BULK AT MOST 1048576: true; the input reads as it did. -/
def fnSwapUptoRow : OpenClaim := { program := "ythfljdamahmkaaa", sum := "263b85ceed2d92b652d4de33c9fb6b223eb0a56fa5acb90f6bf0c2c0ad212d40", func := "loop.example/radiointerferometer/laws.FnSwap", spec := "fnSwap", unfollowed := true, recurses := true, apart := false, narrowed := true }
def FnSwapUptoSaid : Prop := fnSwapUptoRow.holds Try.pinned (OpenSpec.upto fnSwapSpec)

/-- 'laws.FnSwapGet', WHERE WHAT IT READS IS OF BULK AT MOST 1048576: true; the input reads as it did. -/
def fnSwapGetUptoRow : OpenClaim := { program := "ythfljdamahmkaaa", sum := "263b85ceed2d92b652d4de33c9fb6b223eb0a56fa5acb90f6bf0c2c0ad212d40", func := "loop.example/radiointerferometer/laws.FnSwapGet", spec := "fnSwapGet", unfollowed := true, recurses := true, apart := false, narrowed := true }
def FnSwapGetUptoSaid : Prop := fnSwapGetUptoRow.holds Try.pinned (OpenSpec.upto fnSwapGetSpec)

/-- 'laws.FnCloseLoopCut', WHERE WHAT IT READS IS OF BULK AT MOST 1048576: true; the input reads as it did. -/
def fnCloseLoopCutUptoRow : OpenClaim := { program := "ythfljdamahmkaaa", sum := "263b85ceed2d92b652d4de33c9fb6b223eb0a56fa5acb90f6bf0c2c0ad212d40", func := "loop.example/radiointerferometer/laws.FnCloseLoopCut", spec := "fnCloseLoopCut", apart := false, narrowed := true }
def FnCloseLoopCutUptoSaid : Prop := fnCloseLoopCutUptoRow.holds Try.pinned (OpenSpec.upto fnCloseLoopCutSpec)

/-- 'laws.FnCloseLoopTurn', WHERE WHAT IT READS IS OF BULK AT MOST 1048576: true; the input reads as it did. -/
def fnCloseLoopTurnUptoRow : OpenClaim := { program := "ythfljdamahmkaaa", sum := "263b85ceed2d92b652d4de33c9fb6b223eb0a56fa5acb90f6bf0c2c0ad212d40", func := "loop.example/radiointerferometer/laws.FnCloseLoopTurn", spec := "fnCloseLoopTurn", apart := false, narrowed := true }
def FnCloseLoopTurnUptoSaid : Prop := fnCloseLoopTurnUptoRow.holds Try.pinned (OpenSpec.upto fnCloseLoopTurnSpec)

/-- 'laws.FnCloseFour', WHERE WHAT IT READS IS OF BULK AT MOST 1048576: true; the input reads as it did. -/
def fnCloseFourUptoRow : OpenClaim := { program := "ythfljdamahmkaaa", sum := "263b85ceed2d92b652d4de33c9fb6b223eb0a56fa5acb90f6bf0c2c0ad212d40", func := "loop.example/radiointerferometer/laws.FnCloseFour", spec := "fnCloseFour", apart := false, narrowed := true }
def FnCloseFourUptoSaid : Prop := fnCloseFourUptoRow.holds Try.pinned (OpenSpec.upto fnCloseFourSpec)

/-- 'laws.FnClosePhase', WHERE WHAT IT READS IS OF BULK AT MOST 1048576: true; the input reads as it did. -/
def fnClosePhaseUptoRow : OpenClaim := { program := "ythfljdamahmkaaa", sum := "263b85ceed2d92b652d4de33c9fb6b223eb0a56fa5acb90f6bf0c2c0ad212d40", func := "loop.example/radiointerferometer/laws.FnClosePhase", spec := "fnClosePhase", apart := false, narrowed := true }
def FnClosePhaseUptoSaid : Prop := fnClosePhaseUptoRow.holds Try.pinned (OpenSpec.upto fnClosePhaseSpec)

/-- 'laws.FnCloseLoop', WHERE WHAT IT READS IS OF BULK AT MOST 1048576: true; the input reads as it did. -/
def fnCloseLoopUptoRow : OpenClaim := { program := "ythfljdamahmkaaa", sum := "263b85ceed2d92b652d4de33c9fb6b223eb0a56fa5acb90f6bf0c2c0ad212d40", func := "loop.example/radiointerferometer/laws.FnCloseLoop", spec := "fnCloseLoop", apart := false, narrowed := true }
def FnCloseLoopUptoSaid : Prop := fnCloseLoopUptoRow.holds Try.pinned (OpenSpec.upto fnCloseLoopSpec)

/-- 'laws.FnCloseSwap', WHERE WHAT IT READS IS OF BULK AT MOST 1048576: true; the input reads as it did. -/
def fnCloseSwapUptoRow : OpenClaim := { program := "ythfljdamahmkaaa", sum := "263b85ceed2d92b652d4de33c9fb6b223eb0a56fa5acb90f6bf0c2c0ad212d40", func := "loop.example/radiointerferometer/laws.FnCloseSwap", spec := "fnCloseSwap", unfollowed := true, recurses := true, apart := false, narrowed := true }
def FnCloseSwapUptoSaid : Prop := fnCloseSwapUptoRow.holds Try.pinned (OpenSpec.upto fnCloseSwapSpec)

end Rows
end Go.Proofs.Ythfljdamahmkaaa
