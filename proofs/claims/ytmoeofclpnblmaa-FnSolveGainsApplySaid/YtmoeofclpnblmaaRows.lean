/-
  No cell of these rows narrows 'for every input' (looked for: loops, veiled, ifaces, maps, wideKeys, modest, calm, conditions, laid).
  DERIVED. THE GIVEN ROWS OF THIS SEAT. 10 by the template 'for every input the law returns true; each argument reads behind the call as it read before'; 0 by the template 'total and deterministic' (their statements: YtmoeofclpnblmaaTotals.lean).
  GIVEN WITH THE SEED: the statements are not yours to turn. If you find one false, say at which input.
  Laid BY PROGRAM, IN A SANDBOX (cutbox-rows.mjs): the forced cells as the released guide's own fill.sh prints them over the translation 46113ecdda4b5759… (all of the seat's roots in one cut). By AI agents, Wed Nov 11 2026. No macro, syntax, notation, axiom, sorry.
-/
import Derived.Test.YtmoeofclpnblmaaChecked
import GoSem.Claim
import GoSem.ClaimJoined
import GoSem.ClaimMapViews
import Derived.JoinedTies
import Derived.KernelRfl
namespace Go.Proofs.Ytmoeofclpnblmaa
/- THE CELL 'sum', in the pinned program and in every row, IS THE sha256 OF THE DUMP (.gsa) THAT YtmoeofclpnblmaaProg.lean LOADS. Nothing in Lean hashes anything: it is a label: what it is worth is what the hold of that sum in a sandbox is worth. -/
noncomputable def Try.pinned : Pinned := { name := "ytmoeofclpnblmaa", sum := "46113ecdda4b5759af68764f262516b7aee03590487cda2dd83938b8740e2224", checked := Try.checked }
namespace Rows
def none {H : Type} : Left H := { results := [], args := [] }

/-- 'laws.FnFlagSolveMore': WHATEVER THE INPUT: true; the input reads as it did. -/
def fnFlagSolveMoreSpec : ChangeSpec := { name := "fnFlagSolveMore", fn := fun _ => fun
  | [d1, d2] => { results := [.lit (.bool true)], args := [d1, d2] }
  | _ => none }
def fnFlagSolveMoreRow : OpenClaim := { program := "ytmoeofclpnblmaa", sum := "46113ecdda4b5759af68764f262516b7aee03590487cda2dd83938b8740e2224", func := "loop.example/radiointerferometer/laws.FnFlagSolveMore", spec := "fnFlagSolveMore", unfollowed := true, recurses := true, apart := false }
def FnFlagSolveMoreSaid : Prop := fnFlagSolveMoreRow.holds Try.pinned (OpenSpec.ofChange fnFlagSolveMoreSpec)

/-- ITS FALSE NEIGHBOUR: 'it returns false'. Refute it at one input. -/
def fnFlagSolveMoreWrong : ChangeSpec := { name := "fnFlagSolveMore", fn := fun _ => fun
  | [d1, d2] => { results := [.lit (.bool false)], args := [d1, d2] }
  | _ => none }
def FnFlagSolveMoreWrongFalsely : Prop := fnFlagSolveMoreRow.holds Try.pinned (OpenSpec.ofChange fnFlagSolveMoreWrong)

/-- 'laws.FnSolveGainsApply': WHATEVER THE INPUT: true; the input reads as it did. -/
def fnSolveGainsApplySpec : ChangeSpec := { name := "fnSolveGainsApply", fn := fun _ => fun
  | [d] => { results := [.lit (.bool true)], args := [d] }
  | _ => none }
def fnSolveGainsApplyRow : OpenClaim := { program := "ytmoeofclpnblmaa", sum := "46113ecdda4b5759af68764f262516b7aee03590487cda2dd83938b8740e2224", func := "loop.example/radiointerferometer/laws.FnSolveGainsApply", spec := "fnSolveGainsApply", unfollowed := true, recurses := true, apart := false }
def FnSolveGainsApplySaid : Prop := fnSolveGainsApplyRow.holds Try.pinned (OpenSpec.ofChange fnSolveGainsApplySpec)

/-- ITS FALSE NEIGHBOUR: 'it returns false'. Refute it at one input. -/
def fnSolveGainsApplyWrong : ChangeSpec := { name := "fnSolveGainsApply", fn := fun _ => fun
  | [d] => { results := [.lit (.bool false)], args := [d] }
  | _ => none }
def FnSolveGainsApplyWrongFalsely : Prop := fnSolveGainsApplyRow.holds Try.pinned (OpenSpec.ofChange fnSolveGainsApplyWrong)

/-- 'laws.FnExactFlagFind': WHATEVER THE INPUT: true; the input reads as it did. -/
def fnExactFlagFindSpec : ChangeSpec := { name := "fnExactFlagFind", fn := fun _ => fun
  | [d1, d2, d3] => { results := [.lit (.bool true)], args := [d1, d2, d3] }
  | _ => none }
def fnExactFlagFindRow : OpenClaim := { program := "ytmoeofclpnblmaa", sum := "46113ecdda4b5759af68764f262516b7aee03590487cda2dd83938b8740e2224", func := "loop.example/radiointerferometer/laws.FnExactFlagFind", spec := "fnExactFlagFind", unfollowed := true, recurses := true, apart := false }
def FnExactFlagFindSaid : Prop := fnExactFlagFindRow.holds Try.pinned (OpenSpec.ofChange fnExactFlagFindSpec)

/-- ITS FALSE NEIGHBOUR: 'it returns false'. Refute it at one input. -/
def fnExactFlagFindWrong : ChangeSpec := { name := "fnExactFlagFind", fn := fun _ => fun
  | [d1, d2, d3] => { results := [.lit (.bool false)], args := [d1, d2, d3] }
  | _ => none }
def FnExactFlagFindWrongFalsely : Prop := fnExactFlagFindRow.holds Try.pinned (OpenSpec.ofChange fnExactFlagFindWrong)

/-- 'laws.FnExactSolvePhases': WHATEVER THE INPUT: true; the input reads as it did. -/
def fnExactSolvePhasesSpec : ChangeSpec := { name := "fnExactSolvePhases", fn := fun _ => fun
  | [d1, d2, d3] => { results := [.lit (.bool true)], args := [d1, d2, d3] }
  | _ => none }
def fnExactSolvePhasesRow : OpenClaim := { program := "ytmoeofclpnblmaa", sum := "46113ecdda4b5759af68764f262516b7aee03590487cda2dd83938b8740e2224", func := "loop.example/radiointerferometer/laws.FnExactSolvePhases", spec := "fnExactSolvePhases", unfollowed := true, recurses := true, apart := false }
def FnExactSolvePhasesSaid : Prop := fnExactSolvePhasesRow.holds Try.pinned (OpenSpec.ofChange fnExactSolvePhasesSpec)

/-- ITS FALSE NEIGHBOUR: 'it returns false'. Refute it at one input. -/
def fnExactSolvePhasesWrong : ChangeSpec := { name := "fnExactSolvePhases", fn := fun _ => fun
  | [d1, d2, d3] => { results := [.lit (.bool false)], args := [d1, d2, d3] }
  | _ => none }
def FnExactSolvePhasesWrongFalsely : Prop := fnExactSolvePhasesRow.holds Try.pinned (OpenSpec.ofChange fnExactSolvePhasesWrong)

/-- 'laws.FnSolveApply': WHATEVER THE INPUT: true; the input reads as it did. -/
def fnSolveApplySpec : ChangeSpec := { name := "fnSolveApply", fn := fun _ => fun
  | [d] => { results := [.lit (.bool true)], args := [d] }
  | _ => none }
def fnSolveApplyRow : OpenClaim := { program := "ytmoeofclpnblmaa", sum := "46113ecdda4b5759af68764f262516b7aee03590487cda2dd83938b8740e2224", func := "loop.example/radiointerferometer/laws.FnSolveApply", spec := "fnSolveApply", unfollowed := true, recurses := true, apart := false }
def FnSolveApplySaid : Prop := fnSolveApplyRow.holds Try.pinned (OpenSpec.ofChange fnSolveApplySpec)

/-- ITS FALSE NEIGHBOUR: 'it returns false'. Refute it at one input. -/
def fnSolveApplyWrong : ChangeSpec := { name := "fnSolveApply", fn := fun _ => fun
  | [d] => { results := [.lit (.bool false)], args := [d] }
  | _ => none }
def FnSolveApplyWrongFalsely : Prop := fnSolveApplyRow.holds Try.pinned (OpenSpec.ofChange fnSolveApplyWrong)

/-- 'laws.FnExactFlagSolve': WHATEVER THE INPUT: true; the input reads as it did. -/
def fnExactFlagSolveSpec : ChangeSpec := { name := "fnExactFlagSolve", fn := fun _ => fun
  | [d1, d2, d3, d4] => { results := [.lit (.bool true)], args := [d1, d2, d3, d4] }
  | _ => none }
def fnExactFlagSolveRow : OpenClaim := { program := "ytmoeofclpnblmaa", sum := "46113ecdda4b5759af68764f262516b7aee03590487cda2dd83938b8740e2224", func := "loop.example/radiointerferometer/laws.FnExactFlagSolve", spec := "fnExactFlagSolve", unfollowed := true, recurses := true, apart := false }
def FnExactFlagSolveSaid : Prop := fnExactFlagSolveRow.holds Try.pinned (OpenSpec.ofChange fnExactFlagSolveSpec)

/-- ITS FALSE NEIGHBOUR: 'it returns false'. Refute it at one input. -/
def fnExactFlagSolveWrong : ChangeSpec := { name := "fnExactFlagSolve", fn := fun _ => fun
  | [d1, d2, d3, d4] => { results := [.lit (.bool false)], args := [d1, d2, d3, d4] }
  | _ => none }
def FnExactFlagSolveWrongFalsely : Prop := fnExactFlagSolveRow.holds Try.pinned (OpenSpec.ofChange fnExactFlagSolveWrong)

/-- 'laws.FnFlagFindOne': WHATEVER THE INPUT: true; the input reads as it did. -/
def fnFlagFindOneSpec : ChangeSpec := { name := "fnFlagFindOne", fn := fun _ => fun
  | [d1, d2] => { results := [.lit (.bool true)], args := [d1, d2] }
  | _ => none }
def fnFlagFindOneRow : OpenClaim := { program := "ytmoeofclpnblmaa", sum := "46113ecdda4b5759af68764f262516b7aee03590487cda2dd83938b8740e2224", func := "loop.example/radiointerferometer/laws.FnFlagFindOne", spec := "fnFlagFindOne", unfollowed := true, recurses := true, apart := false }
def FnFlagFindOneSaid : Prop := fnFlagFindOneRow.holds Try.pinned (OpenSpec.ofChange fnFlagFindOneSpec)

/-- ITS FALSE NEIGHBOUR: 'it returns false'. Refute it at one input. -/
def fnFlagFindOneWrong : ChangeSpec := { name := "fnFlagFindOne", fn := fun _ => fun
  | [d1, d2] => { results := [.lit (.bool false)], args := [d1, d2] }
  | _ => none }
def FnFlagFindOneWrongFalsely : Prop := fnFlagFindOneRow.holds Try.pinned (OpenSpec.ofChange fnFlagFindOneWrong)

/-- 'laws.FnFlagFind': WHATEVER THE INPUT: true; the input reads as it did. -/
def fnFlagFindSpec : ChangeSpec := { name := "fnFlagFind", fn := fun _ => fun
  | [d] => { results := [.lit (.bool true)], args := [d] }
  | _ => none }
def fnFlagFindRow : OpenClaim := { program := "ytmoeofclpnblmaa", sum := "46113ecdda4b5759af68764f262516b7aee03590487cda2dd83938b8740e2224", func := "loop.example/radiointerferometer/laws.FnFlagFind", spec := "fnFlagFind", unfollowed := true, recurses := true, apart := false }
def FnFlagFindSaid : Prop := fnFlagFindRow.holds Try.pinned (OpenSpec.ofChange fnFlagFindSpec)

/-- ITS FALSE NEIGHBOUR: 'it returns false'. Refute it at one input. -/
def fnFlagFindWrong : ChangeSpec := { name := "fnFlagFind", fn := fun _ => fun
  | [d] => { results := [.lit (.bool false)], args := [d] }
  | _ => none }
def FnFlagFindWrongFalsely : Prop := fnFlagFindRow.holds Try.pinned (OpenSpec.ofChange fnFlagFindWrong)

/-- 'laws.FnFlagSolveAny': WHATEVER THE INPUT: true; the input reads as it did. -/
def fnFlagSolveAnySpec : ChangeSpec := { name := "fnFlagSolveAny", fn := fun _ => fun
  | [d1, d2] => { results := [.lit (.bool true)], args := [d1, d2] }
  | _ => none }
def fnFlagSolveAnyRow : OpenClaim := { program := "ytmoeofclpnblmaa", sum := "46113ecdda4b5759af68764f262516b7aee03590487cda2dd83938b8740e2224", func := "loop.example/radiointerferometer/laws.FnFlagSolveAny", spec := "fnFlagSolveAny", unfollowed := true, recurses := true, apart := false }
def FnFlagSolveAnySaid : Prop := fnFlagSolveAnyRow.holds Try.pinned (OpenSpec.ofChange fnFlagSolveAnySpec)

/-- ITS FALSE NEIGHBOUR: 'it returns false'. Refute it at one input. -/
def fnFlagSolveAnyWrong : ChangeSpec := { name := "fnFlagSolveAny", fn := fun _ => fun
  | [d1, d2] => { results := [.lit (.bool false)], args := [d1, d2] }
  | _ => none }
def FnFlagSolveAnyWrongFalsely : Prop := fnFlagSolveAnyRow.holds Try.pinned (OpenSpec.ofChange fnFlagSolveAnyWrong)

/-- 'laws.FnFlagFindNone': WHATEVER THE INPUT: true; the input reads as it did. -/
def fnFlagFindNoneSpec : ChangeSpec := { name := "fnFlagFindNone", fn := fun _ => fun
  | [d] => { results := [.lit (.bool true)], args := [d] }
  | _ => none }
def fnFlagFindNoneRow : OpenClaim := { program := "ytmoeofclpnblmaa", sum := "46113ecdda4b5759af68764f262516b7aee03590487cda2dd83938b8740e2224", func := "loop.example/radiointerferometer/laws.FnFlagFindNone", spec := "fnFlagFindNone", unfollowed := true, recurses := true, apart := false }
def FnFlagFindNoneSaid : Prop := fnFlagFindNoneRow.holds Try.pinned (OpenSpec.ofChange fnFlagFindNoneSpec)

/-- ITS FALSE NEIGHBOUR: 'it returns false'. Refute it at one input. -/
def fnFlagFindNoneWrong : ChangeSpec := { name := "fnFlagFindNone", fn := fun _ => fun
  | [d] => { results := [.lit (.bool false)], args := [d] }
  | _ => none }
def FnFlagFindNoneWrongFalsely : Prop := fnFlagFindNoneRow.holds Try.pinned (OpenSpec.ofChange fnFlagFindNoneWrong)

/- THE SECOND FORM. 'bulk': how many values and letters a reading holds, each counted each time it is reached (what is shared counts as often as it is met; a slice's spare places count too). A statement '..UptoSaid' is the law's where the arguments, and the package variables that the reading takes, are together of bulk at most 1048576: NARROWER than '..Said'. Prove '..Said' where nothing that the law and all that it calls make is longer than what came in: it says more and counts as full. Else prove '..UptoSaid'. A law counts once. -/
mutual
def uptoBulk {H : Type} : DataW H → Nat
  | .lit (.string bytes) => bytes.length + 1
  | .lit _ => 1
  | .nil => 1
  | .ptr d => uptoBulk d + 1
  | .slice elems spare => uptoBulkAll elems + uptoBulkAll spare + 1
  | .agg parts => uptoBulkAll parts + 1
  | .iface _ d => uptoBulk d + 1
  | .map entries => uptoBulkEntries entries + 1
  | .held _ => 1
def uptoBulkAll {H : Type} : List (DataW H) → Nat
  | [] => 0
  | d :: r => uptoBulk d + uptoBulkAll r
def uptoBulkEntries {H : Type} : List (Lit × DataW H) → Nat
  | [] => 0
  | x :: r => uptoBulkEntry x + uptoBulkEntries r
def uptoBulkEntry {H : Type} : Lit × DataW H → Nat
  | (.string bytes, d) => bytes.length + uptoBulk d + 1
  | (_, d) => uptoBulk d + 1
 end
def uptoSmall : (H : Type) → List (DataW H) → Bool := fun _ ds => decide (uptoBulkAll ds ≤ 1048576)
def OpenSpec.upto (s : _root_.Go.ChangeSpec) : _root_.Go.OpenSpec := { _root_.Go.OpenSpec.ofChange s with cond := some uptoSmall }

/-- 'laws.FnFlagSolveMore', WHERE WHAT IT READS IS OF BULK AT MOST 1048576: true; the input reads as it did. -/
def fnFlagSolveMoreUptoRow : OpenClaim := { program := "ytmoeofclpnblmaa", sum := "46113ecdda4b5759af68764f262516b7aee03590487cda2dd83938b8740e2224", func := "loop.example/radiointerferometer/laws.FnFlagSolveMore", spec := "fnFlagSolveMore", unfollowed := true, recurses := true, apart := false, narrowed := true }
def FnFlagSolveMoreUptoSaid : Prop := fnFlagSolveMoreUptoRow.holds Try.pinned (OpenSpec.upto fnFlagSolveMoreSpec)

/-- 'laws.FnSolveGainsApply', WHERE WHAT IT READS IS OF BULK AT MOST 1048576: true; the input reads as it did. -/
def fnSolveGainsApplyUptoRow : OpenClaim := { program := "ytmoeofclpnblmaa", sum := "46113ecdda4b5759af68764f262516b7aee03590487cda2dd83938b8740e2224", func := "loop.example/radiointerferometer/laws.FnSolveGainsApply", spec := "fnSolveGainsApply", unfollowed := true, recurses := true, apart := false, narrowed := true }
def FnSolveGainsApplyUptoSaid : Prop := fnSolveGainsApplyUptoRow.holds Try.pinned (OpenSpec.upto fnSolveGainsApplySpec)

/-- 'laws.FnExactFlagFind', WHERE WHAT IT READS IS OF BULK AT MOST 1048576: true; the input reads as it did. -/
def fnExactFlagFindUptoRow : OpenClaim := { program := "ytmoeofclpnblmaa", sum := "46113ecdda4b5759af68764f262516b7aee03590487cda2dd83938b8740e2224", func := "loop.example/radiointerferometer/laws.FnExactFlagFind", spec := "fnExactFlagFind", unfollowed := true, recurses := true, apart := false, narrowed := true }
def FnExactFlagFindUptoSaid : Prop := fnExactFlagFindUptoRow.holds Try.pinned (OpenSpec.upto fnExactFlagFindSpec)

/-- 'laws.FnExactSolvePhases', WHERE WHAT IT READS IS OF BULK AT MOST 1048576: true; the input reads as it did. -/
def fnExactSolvePhasesUptoRow : OpenClaim := { program := "ytmoeofclpnblmaa", sum := "46113ecdda4b5759af68764f262516b7aee03590487cda2dd83938b8740e2224", func := "loop.example/radiointerferometer/laws.FnExactSolvePhases", spec := "fnExactSolvePhases", unfollowed := true, recurses := true, apart := false, narrowed := true }
def FnExactSolvePhasesUptoSaid : Prop := fnExactSolvePhasesUptoRow.holds Try.pinned (OpenSpec.upto fnExactSolvePhasesSpec)

/-- 'laws.FnSolveApply', WHERE WHAT IT READS IS OF BULK AT MOST 1048576: true; the input reads as it did. -/
def fnSolveApplyUptoRow : OpenClaim := { program := "ytmoeofclpnblmaa", sum := "46113ecdda4b5759af68764f262516b7aee03590487cda2dd83938b8740e2224", func := "loop.example/radiointerferometer/laws.FnSolveApply", spec := "fnSolveApply", unfollowed := true, recurses := true, apart := false, narrowed := true }
def FnSolveApplyUptoSaid : Prop := fnSolveApplyUptoRow.holds Try.pinned (OpenSpec.upto fnSolveApplySpec)

/-- 'laws.FnExactFlagSolve', WHERE WHAT IT READS IS OF BULK AT MOST 1048576: true; the input reads as it did. -/
def fnExactFlagSolveUptoRow : OpenClaim := { program := "ytmoeofclpnblmaa", sum := "46113ecdda4b5759af68764f262516b7aee03590487cda2dd83938b8740e2224", func := "loop.example/radiointerferometer/laws.FnExactFlagSolve", spec := "fnExactFlagSolve", unfollowed := true, recurses := true, apart := false, narrowed := true }
def FnExactFlagSolveUptoSaid : Prop := fnExactFlagSolveUptoRow.holds Try.pinned (OpenSpec.upto fnExactFlagSolveSpec)

/-- 'laws.FnFlagFindOne', WHERE WHAT IT READS IS OF BULK AT MOST 1048576: true; the input reads as it did. -/
def fnFlagFindOneUptoRow : OpenClaim := { program := "ytmoeofclpnblmaa", sum := "46113ecdda4b5759af68764f262516b7aee03590487cda2dd83938b8740e2224", func := "loop.example/radiointerferometer/laws.FnFlagFindOne", spec := "fnFlagFindOne", unfollowed := true, recurses := true, apart := false, narrowed := true }
def FnFlagFindOneUptoSaid : Prop := fnFlagFindOneUptoRow.holds Try.pinned (OpenSpec.upto fnFlagFindOneSpec)

/-- 'laws.FnFlagFind', WHERE WHAT IT READS IS OF BULK AT MOST 1048576: true; the input reads as it did. -/
def fnFlagFindUptoRow : OpenClaim := { program := "ytmoeofclpnblmaa", sum := "46113ecdda4b5759af68764f262516b7aee03590487cda2dd83938b8740e2224", func := "loop.example/radiointerferometer/laws.FnFlagFind", spec := "fnFlagFind", unfollowed := true, recurses := true, apart := false, narrowed := true }
def FnFlagFindUptoSaid : Prop := fnFlagFindUptoRow.holds Try.pinned (OpenSpec.upto fnFlagFindSpec)

/-- 'laws.FnFlagSolveAny', WHERE WHAT IT READS IS OF BULK AT MOST 1048576: true; the input reads as it did. -/
def fnFlagSolveAnyUptoRow : OpenClaim := { program := "ytmoeofclpnblmaa", sum := "46113ecdda4b5759af68764f262516b7aee03590487cda2dd83938b8740e2224", func := "loop.example/radiointerferometer/laws.FnFlagSolveAny", spec := "fnFlagSolveAny", unfollowed := true, recurses := true, apart := false, narrowed := true }
def FnFlagSolveAnyUptoSaid : Prop := fnFlagSolveAnyUptoRow.holds Try.pinned (OpenSpec.upto fnFlagSolveAnySpec)

/-- 'laws.FnFlagFindNone', WHERE WHAT IT READS IS OF BULK AT MOST 1048576: true; the input reads as it did. -/
def fnFlagFindNoneUptoRow : OpenClaim := { program := "ytmoeofclpnblmaa", sum := "46113ecdda4b5759af68764f262516b7aee03590487cda2dd83938b8740e2224", func := "loop.example/radiointerferometer/laws.FnFlagFindNone", spec := "fnFlagFindNone", unfollowed := true, recurses := true, apart := false, narrowed := true }
def FnFlagFindNoneUptoSaid : Prop := fnFlagFindNoneUptoRow.holds Try.pinned (OpenSpec.upto fnFlagFindNoneSpec)

end Rows
end Go.Proofs.Ytmoeofclpnblmaa
