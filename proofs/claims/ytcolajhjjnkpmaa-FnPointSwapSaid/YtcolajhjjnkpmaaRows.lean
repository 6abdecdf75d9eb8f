/-
  No cell of these rows narrows 'for every input' (looked for: loops, veiled, ifaces, maps, wideKeys, modest, calm, conditions, laid).
  DERIVED. THE GIVEN ROWS OF THIS SEAT. 8 by the template 'for every input the law returns true; each argument reads behind the call as it read before'; 0 by the template 'total and deterministic' (their statements: YtcolajhjjnkpmaaTotals.lean).
  GIVEN WITH THE SEED: the statements are not yours to turn. If you find one false, say at which input.
  Laid BY PROGRAM, IN A SANDBOX (cutbox-rows.mjs): the forced cells as the released guide's own fill.sh prints them over the translation c2859ef2a2276dde… (all of the seat's roots in one cut). By AI agents, Wed Nov 11 2026. No macro, syntax, notation, axiom, sorry.
-/
import Derived.Test.YtcolajhjjnkpmaaChecked
import GoSem.Claim
import GoSem.ClaimJoined
import GoSem.ClaimMapViews
import Derived.JoinedTies
import Derived.KernelRfl
namespace Go.Proofs.Ytcolajhjjnkpmaa
/- THE CELL 'sum', in the pinned program and in every row, IS THE sha256 OF THE DUMP (.gsa) THAT YtcolajhjjnkpmaaProg.lean LOADS. Nothing in Lean hashes anything: it is a label: what it is worth is what the hold of that sum in a sandbox is worth. -/
noncomputable def Try.pinned : Pinned := { name := "ytcolajhjjnkpmaa", sum := "c2859ef2a2276dde815f06bf0902e2d678f74c730ff96fd981cd2ce3319feb8e", checked := Try.checked }
namespace Rows
def none {H : Type} : Left H := { results := [], args := [] }

/-- 'laws.FnApplySwap': WHATEVER THE INPUT: true; the input reads as it did. -/
def fnApplySwapSpec : ChangeSpec := { name := "fnApplySwap", fn := fun _ => fun
  | [d1, d2] => { results := [.lit (.bool true)], args := [d1, d2] }
  | _ => none }
def fnApplySwapRow : OpenClaim := { program := "ytcolajhjjnkpmaa", sum := "c2859ef2a2276dde815f06bf0902e2d678f74c730ff96fd981cd2ce3319feb8e", func := "loop.example/radiointerferometer/laws.FnApplySwap", spec := "fnApplySwap", unfollowed := true, recurses := true, apart := false }
def FnApplySwapSaid : Prop := fnApplySwapRow.holds Try.pinned (OpenSpec.ofChange fnApplySwapSpec)

/-- ITS FALSE NEIGHBOUR: 'it returns false'. Refute it at one input. -/
def fnApplySwapWrong : ChangeSpec := { name := "fnApplySwap", fn := fun _ => fun
  | [d1, d2] => { results := [.lit (.bool false)], args := [d1, d2] }
  | _ => none }
def FnApplySwapWrongFalsely : Prop := fnApplySwapRow.holds Try.pinned (OpenSpec.ofChange fnApplySwapWrong)

/-- 'laws.FnCloseBaseGain': WHATEVER THE INPUT: true; the input reads as it did. -/
def fnCloseBaseGainSpec : ChangeSpec := { name := "fnCloseBaseGain", fn := fun _ => fun
  | [d] => { results := [.lit (.bool true)], args := [d] }
  | _ => none }
def fnCloseBaseGainRow : OpenClaim := { program := "ytcolajhjjnkpmaa", sum := "c2859ef2a2276dde815f06bf0902e2d678f74c730ff96fd981cd2ce3319feb8e", func := "loop.example/radiointerferometer/laws.FnCloseBaseGain", spec := "fnCloseBaseGain", unfollowed := true, recurses := true, apart := false }
def FnCloseBaseGainSaid : Prop := fnCloseBaseGainRow.holds Try.pinned (OpenSpec.ofChange fnCloseBaseGainSpec)

/-- ITS FALSE NEIGHBOUR: 'it returns false'. Refute it at one input. -/
def fnCloseBaseGainWrong : ChangeSpec := { name := "fnCloseBaseGain", fn := fun _ => fun
  | [d] => { results := [.lit (.bool false)], args := [d] }
  | _ => none }
def FnCloseBaseGainWrongFalsely : Prop := fnCloseBaseGainRow.holds Try.pinned (OpenSpec.ofChange fnCloseBaseGainWrong)

/-- 'laws.FnCloseLoopGain': WHATEVER THE INPUT: true; the input reads as it did. -/
def fnCloseLoopGainSpec : ChangeSpec := { name := "fnCloseLoopGain", fn := fun _ => fun
  | [d1, d2] => { results := [.lit (.bool true)], args := [d1, d2] }
  | _ => none }
def fnCloseLoopGainRow : OpenClaim := { program := "ytcolajhjjnkpmaa", sum := "c2859ef2a2276dde815f06bf0902e2d678f74c730ff96fd981cd2ce3319feb8e", func := "loop.example/radiointerferometer/laws.FnCloseLoopGain", spec := "fnCloseLoopGain", unfollowed := true, recurses := true, apart := false }
def FnCloseLoopGainSaid : Prop := fnCloseLoopGainRow.holds Try.pinned (OpenSpec.ofChange fnCloseLoopGainSpec)

/-- ITS FALSE NEIGHBOUR: 'it returns false'. Refute it at one input. -/
def fnCloseLoopGainWrong : ChangeSpec := { name := "fnCloseLoopGain", fn := fun _ => fun
  | [d1, d2] => { results := [.lit (.bool false)], args := [d1, d2] }
  | _ => none }
def FnCloseLoopGainWrongFalsely : Prop := fnCloseLoopGainRow.holds Try.pinned (OpenSpec.ofChange fnCloseLoopGainWrong)

/-- 'laws.FnClosePhaseGain': WHATEVER THE INPUT: true; the input reads as it did. -/
def fnClosePhaseGainSpec : ChangeSpec := { name := "fnClosePhaseGain", fn := fun _ => fun
  | [d1, d2] => { results := [.lit (.bool true)], args := [d1, d2] }
  | _ => none }
def fnClosePhaseGainRow : OpenClaim := { program := "ytcolajhjjnkpmaa", sum := "c2859ef2a2276dde815f06bf0902e2d678f74c730ff96fd981cd2ce3319feb8e", func := "loop.example/radiointerferometer/laws.FnClosePhaseGain", spec := "fnClosePhaseGain", unfollowed := true, recurses := true, apart := false }
def FnClosePhaseGainSaid : Prop := fnClosePhaseGainRow.holds Try.pinned (OpenSpec.ofChange fnClosePhaseGainSpec)

/-- ITS FALSE NEIGHBOUR: 'it returns false'. Refute it at one input. -/
def fnClosePhaseGainWrong : ChangeSpec := { name := "fnClosePhaseGain", fn := fun _ => fun
  | [d1, d2] => { results := [.lit (.bool false)], args := [d1, d2] }
  | _ => none }
def FnClosePhaseGainWrongFalsely : Prop := fnClosePhaseGainRow.holds Try.pinned (OpenSpec.ofChange fnClosePhaseGainWrong)

/-- 'laws.FnCloseSameGain': WHATEVER THE INPUT: true; the input reads as it did. -/
def fnCloseSameGainSpec : ChangeSpec := { name := "fnCloseSameGain", fn := fun _ => fun
  | [d] => { results := [.lit (.bool true)], args := [d] }
  | _ => none }
def fnCloseSameGainRow : OpenClaim := { program := "ytcolajhjjnkpmaa", sum := "c2859ef2a2276dde815f06bf0902e2d678f74c730ff96fd981cd2ce3319feb8e", func := "loop.example/radiointerferometer/laws.FnCloseSameGain", spec := "fnCloseSameGain", unfollowed := true, recurses := true, apart := false }
def FnCloseSameGainSaid : Prop := fnCloseSameGainRow.holds Try.pinned (OpenSpec.ofChange fnCloseSameGainSpec)

/-- ITS FALSE NEIGHBOUR: 'it returns false'. Refute it at one input. -/
def fnCloseSameGainWrong : ChangeSpec := { name := "fnCloseSameGain", fn := fun _ => fun
  | [d] => { results := [.lit (.bool false)], args := [d] }
  | _ => none }
def FnCloseSameGainWrongFalsely : Prop := fnCloseSameGainRow.holds Try.pinned (OpenSpec.ofChange fnCloseSameGainWrong)

/-- 'laws.FnPointSwap': WHATEVER THE INPUT: true; the input reads as it did. -/
def fnPointSwapSpec : ChangeSpec := { name := "fnPointSwap", fn := fun _ => fun
  | [d1, d2] => { results := [.lit (.bool true)], args := [d1, d2] }
  | _ => none }
def fnPointSwapRow : OpenClaim := { program := "ytcolajhjjnkpmaa", sum := "c2859ef2a2276dde815f06bf0902e2d678f74c730ff96fd981cd2ce3319feb8e", func := "loop.example/radiointerferometer/laws.FnPointSwap", spec := "fnPointSwap", unfollowed := true, recurses := true, apart := false }
def FnPointSwapSaid : Prop := fnPointSwapRow.holds Try.pinned (OpenSpec.ofChange fnPointSwapSpec)

/-- ITS FALSE NEIGHBOUR: 'it returns false'. Refute it at one input. -/
def fnPointSwapWrong : ChangeSpec := { name := "fnPointSwap", fn := fun _ => fun
  | [d1, d2] => { results := [.lit (.bool false)], args := [d1, d2] }
  | _ => none }
def FnPointSwapWrongFalsely : Prop := fnPointSwapRow.holds Try.pinned (OpenSpec.ofChange fnPointSwapWrong)

/-- 'laws.FnClosePhasePoint': WHATEVER THE INPUT: true; the input reads as it did. -/
def fnClosePhasePointSpec : ChangeSpec := { name := "fnClosePhasePoint", fn := fun _ => fun
  | [d1, d2] => { results := [.lit (.bool true)], args := [d1, d2] }
  | _ => none }
def fnClosePhasePointRow : OpenClaim := { program := "ytcolajhjjnkpmaa", sum := "c2859ef2a2276dde815f06bf0902e2d678f74c730ff96fd981cd2ce3319feb8e", func := "loop.example/radiointerferometer/laws.FnClosePhasePoint", spec := "fnClosePhasePoint", unfollowed := true, recurses := true, apart := false }
def FnClosePhasePointSaid : Prop := fnClosePhasePointRow.holds Try.pinned (OpenSpec.ofChange fnClosePhasePointSpec)

/-- ITS FALSE NEIGHBOUR: 'it returns false'. Refute it at one input. -/
def fnClosePhasePointWrong : ChangeSpec := { name := "fnClosePhasePoint", fn := fun _ => fun
  | [d1, d2] => { results := [.lit (.bool false)], args := [d1, d2] }
  | _ => none }
def FnClosePhasePointWrongFalsely : Prop := fnClosePhasePointRow.holds Try.pinned (OpenSpec.ofChange fnClosePhasePointWrong)

/-- 'laws.FnCloseLoopPoint': WHATEVER THE INPUT: true; the input reads as it did. -/
def fnCloseLoopPointSpec : ChangeSpec := { name := "fnCloseLoopPoint", fn := fun _ => fun
  | [d] => { results := [.lit (.bool true)], args := [d] }
  | _ => none }
def fnCloseLoopPointRow : OpenClaim := { program := "ytcolajhjjnkpmaa", sum := "c2859ef2a2276dde815f06bf0902e2d678f74c730ff96fd981cd2ce3319feb8e", func := "loop.example/radiointerferometer/laws.FnCloseLoopPoint", spec := "fnCloseLoopPoint", unfollowed := true, recurses := true, apart := false }
def FnCloseLoopPointSaid : Prop := fnCloseLoopPointRow.holds Try.pinned (OpenSpec.ofChange fnCloseLoopPointSpec)

/-- ITS FALSE NEIGHBOUR: 'it returns false'. Refute it at one input. -/
def fnCloseLoopPointWrong : ChangeSpec := { name := "fnCloseLoopPoint", fn := fun _ => fun
  | [d] => { results := [.lit (.bool false)], args := [d] }
  | _ => none }
def FnCloseLoopPointWrongFalsely : Prop := fnCloseLoopPointRow.holds Try.pinned (OpenSpec.ofChange fnCloseLoopPointWrong)

/- THE SECOND FORM. 'bulk': how many values and letters a reading holds, each counted each time it is reached (what is shared counts as often as it is met; a slice's spare places count too). A statement '..UptoSaid' is the law's where the arguments, and the package variables that the reading takes, are together of bulk at most 1048576: NARROWER than '..Said'. Prove '..Said' where nothing that the law and all that it calls make is longer than what came in: it says more and counts as full. Else prove '..UptoSaid'. A law counts once. -/
mutual
def uptoBulk {H : Type} : DataW H → Nat
  | .lit (.string bytes) => bytes.length + 1
  | .lit _ => 1
  | .nil => 1
  | .ptr d => uptoBulk d + 1
  | .slice elems spare => uptoBulkAll elems + uptoBulkAll spare + 1
  | .agg parts => uptoBulkAll parts + 1
  | .iface _ d => uptoBulk d + 1
  | .map entries => uptoBulkEntries entries + 1
  | .held _ => 1
def uptoBulkAll {H : Type} : List (DataW H) → Nat
  | [] => 0
  | d :: r => uptoBulk d + uptoBulkAll r
def uptoBulkEntries {H : Type} : List (Lit × DataW H) → Nat
  | [] => 0
  | x :: r => uptoBulkEntry x + uptoBulkEntries r
def uptoBulkEntry {H : Type} : Lit × DataW H → Nat
  | (.string bytes, d) => bytes.length + uptoBulk d + 1
  | (_, d) => uptoBulk d + 1
 end
def uptoSmall : (H : Type) → List (DataW H) → Bool := fun _ ds => decide (uptoBulkAll ds ≤ 1048576)
def OpenSpec.upto (s : _root_.Go.ChangeSpec) : _root_.Go.OpenSpec := { _root_.Go.OpenSpec.ofChange s with cond := some uptoSmall }

/-- 'laws.FnApplySwap', WHERE WHAT IT READS IS OF BULK AT MOST 1048576: true; the input reads as it did. -/
def fnApplySwapUptoRow : OpenClaim := { program := "ytcolajhjjnkpmaa", sum := "c2859ef2a2276dde815f06bf0902e2d678f74c730ff96fd981cd2ce3319feb8e", func := "loop.example/radiointerferometer/laws.FnApplySwap", spec := "fnApplySwap", unfollowed := true, recurses := true, apart := false, narrowed := true }
def FnApplySwapUptoSaid : Prop := fnApplySwapUptoRow.holds Try.pinned (OpenSpec.upto fnApplySwapSpec)

/-- 'laws.FnCloseBaseGain', WHERE WHAT IT READS IS OF BULK AT MOST 1048576: true; the input reads as it did. -/
def fnCloseBaseGainUptoRow : OpenClaim := { program := "ytcolajhjjnkpmaa", sum := "c2859ef2a2276dde815f06bf0902e2d678f74c730ff96fd981cd2ce3319feb8e", func := "loop.example/radiointerferometer/laws.FnCloseBaseGain", spec := "fnCloseBaseGain", unfollowed := true, recurses := true, apart := false, narrowed := true }
def FnCloseBaseGainUptoSaid : Prop := fnCloseBaseGainUptoRow.holds Try.pinned (OpenSpec.upto fnCloseBaseGainSpec)

/-- 'laws.FnCloseLoopGain', WHERE WHAT IT READS IS OF BULK AT MOST 1048576: true; the input reads as it did. -/
def fnCloseLoopGainUptoRow : OpenClaim := { program := "ytcolajhjjnkpmaa", sum := "c2859ef2a2276dde815f06bf0902e2d678f74c730ff96fd981cd2ce3319feb8e", func := "loop.example/radiointerferometer/laws.FnCloseLoopGain", spec := "fnCloseLoopGain", unfollowed := true, recurses := true, apart := false, narrowed := true }
def FnCloseLoopGainUptoSaid : Prop := fnCloseLoopGainUptoRow.holds Try.pinned (OpenSpec.upto fnCloseLoopGainSpec)

/-- 'laws.FnClosePhaseGain', WHERE WHAT IT READS IS OF BULK AT MOST 1048576: true; the input reads as it did. -/
def fnClosePhaseGainUptoRow : OpenClaim := { program := "ytcolajhjjnkpmaa", sum := "c2859ef2a2276dde815f06bf0902e2d678f74c730ff96fd981cd2ce3319feb8e", func := "loop.example/radiointerferometer/laws.FnClosePhaseGain", spec := "fnClosePhaseGain", unfollowed := true, recurses := true, apart := false, narrowed := true }
def FnClosePhaseGainUptoSaid : Prop := fnClosePhaseGainUptoRow.holds Try.pinned (OpenSpec.upto fnClosePhaseGainSpec)

/-- 'laws.FnCloseSameGain', WHERE WHAT IT READS IS OF BULK AT MOST 1048576: true; the input reads as it did. -/
def fnCloseSameGainUptoRow : OpenClaim := { program := "ytcolajhjjnkpmaa", sum := "c2859ef2a2276dde815f06bf0902e2d678f74c730ff96fd981cd2ce3319feb8e", func := "loop.example/radiointerferometer/laws.FnCloseSameGain", spec := "fnCloseSameGain", unfollowed := true, recurses := true, apart := false, narrowed := true }
def FnCloseSameGainUptoSaid : Prop := fnCloseSameGainUptoRow.holds Try.pinned (OpenSpec.upto fnCloseSameGainSpec)

/-- 'laws.FnPointSwap', WHERE WHAT IT READS IS OF BULK AT MOST 1048576: true; the input reads as it did. -/
def fnPointSwapUptoRow : OpenClaim := { program := "ytcolajhjjnkpmaa", sum := "c2859ef2a2276dde815f06bf0902e2d678f74c730ff96fd981cd2ce3319feb8e", func := "loop.example/radiointerferometer/laws.FnPointSwap", spec := "fnPointSwap", unfollowed := true, recurses := true, apart := false, narrowed := true }
def FnPointSwapUptoSaid : Prop := fnPointSwapUptoRow.holds Try.pinned (OpenSpec.upto fnPointSwapSpec)

/-- 'laws.FnClosePhasePoint', WHERE WHAT IT READS IS OF BULK AT MOST 1048576: true; the input reads as it did. -/
def fnClosePhasePointUptoRow : OpenClaim := { program := "ytcolajhjjnkpmaa", sum := "c2859ef2a2276dde815f06bf0902e2d678f74c730ff96fd981cd2ce3319feb8e", func := "loop.example/radiointerferometer/laws.FnClosePhasePoint", spec := "fnClosePhasePoint", unfollowed := true, recurses := true, apart := false, narrowed := true }
def FnClosePhasePointUptoSaid : Prop := fnClosePhasePointUptoRow.holds Try.pinned (OpenSpec.upto fnClosePhasePointSpec)

/-- 'laws.FnCloseLoopPoint', WHERE WHAT IT READS IS OF BULK AT MOST 1048576: true; the input reads as it did. -/
def fnCloseLoopPointUptoRow : OpenClaim := { program := "ytcolajhjjnkpmaa", sum := "c2859ef2a2276dde815f06bf0902e2d678f74c730ff96fd981cd2ce3319feb8e", func := "loop.example/radiointerferometer/laws.FnCloseLoopPoint", spec := "fnCloseLoopPoint", unfollowed := true, recurses := true, apart := false, narrowed := true }
def FnCloseLoopPointUptoSaid : Prop := fnCloseLoopPointUptoRow.holds Try.pinned (OpenSpec.upto fnCloseLoopPointSpec)

end Rows
end Go.Proofs.Ytcolajhjjnkpmaa
