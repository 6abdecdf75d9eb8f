/-
  No cell of these rows narrows 'for every input' (looked for: loops, veiled, ifaces, maps, wideKeys, modest, calm, conditions, laid).
  DERIVED. THE GIVEN ROWS OF THIS SEAT. 7 by the template 'for every input the law returns true; each argument reads behind the call as it read before'; 0 by the template 'total and deterministic' (their statements: YtdcabfobmkdlmaaTotals.lean).
  GIVEN WITH THE SEED: the statements are not yours to turn. If you find one false, say at which input.
  Laid BY PROGRAM, IN A SANDBOX (cutbox-rows.mjs): the forced cells as the released guide's own fill.sh prints them over the translation e157b26b4d6712a7… (all of the seat's roots in one cut). By AI agents, Wed Nov 11 2026. No macro, syntax, notation, axiom, sorry.
-/
import Derived.Test.YtdcabfobmkdlmaaChecked
import GoSem.Claim
import GoSem.ClaimJoined
import GoSem.ClaimMapViews
import Derived.JoinedTies
import Derived.KernelRfl
namespace Go.Proofs.Ytdcabfobmkdlmaa
/- THE CELL 'sum', in the pinned program and in every row, IS THE sha256 OF THE DUMP (.gsa) THAT YtdcabfobmkdlmaaProg.lean LOADS. Nothing in Lean hashes anything: it is a label: what it is worth is what the hold of that sum in a sandbox is worth. -/
noncomputable def Try.pinned : Pinned := { name := "ytdcabfobmkdlmaa", sum := "e157b26b4d6712a7d84cc357f9b50681572a318da5ef888b1fc401a39205af8d", checked := Try.checked }
namespace Rows
def none {H : Type} : Left H := { results := [], args := [] }

/-- 'laws.FnTransformShift': WHATEVER THE INPUT: true; the input reads as it did. -/
def fnTransformShiftSpec : ChangeSpec := { name := "fnTransformShift", fn := fun _ => fun
  | [d1, d2] => { results := [.lit (.bool true)], args := [d1, d2] }
  | _ => none }
def fnTransformShiftRow : OpenClaim := { program := "ytdcabfobmkdlmaa", sum := "e157b26b4d6712a7d84cc357f9b50681572a318da5ef888b1fc401a39205af8d", func := "loop.example/radiointerferometer/laws.FnTransformShift", spec := "fnTransformShift", apart := false }
def FnTransformShiftSaid : Prop := fnTransformShiftRow.holds Try.pinned (OpenSpec.ofChange fnTransformShiftSpec)

/-- ITS FALSE NEIGHBOUR: 'it returns false'. Refute it at one input. -/
def fnTransformShiftWrong : ChangeSpec := { name := "fnTransformShift", fn := fun _ => fun
  | [d1, d2] => { results := [.lit (.bool false)], args := [d1, d2] }
  | _ => none }
def FnTransformShiftWrongFalsely : Prop := fnTransformShiftRow.holds Try.pinned (OpenSpec.ofChange fnTransformShiftWrong)

/-- 'laws.FnFoldTransform': WHATEVER THE INPUT: true; the input reads as it did. -/
def fnFoldTransformSpec : ChangeSpec := { name := "fnFoldTransform", fn := fun _ => fun
  | [d] => { results := [.lit (.bool true)], args := [d] }
  | _ => none }
def fnFoldTransformRow : OpenClaim := { program := "ytdcabfobmkdlmaa", sum := "e157b26b4d6712a7d84cc357f9b50681572a318da5ef888b1fc401a39205af8d", func := "loop.example/radiointerferometer/laws.FnFoldTransform", spec := "fnFoldTransform", apart := false }
def FnFoldTransformSaid : Prop := fnFoldTransformRow.holds Try.pinned (OpenSpec.ofChange fnFoldTransformSpec)

/-- ITS FALSE NEIGHBOUR: 'it returns false'. Refute it at one input. -/
def fnFoldTransformWrong : ChangeSpec := { name := "fnFoldTransform", fn := fun _ => fun
  | [d] => { results := [.lit (.bool false)], args := [d] }
  | _ => none }
def FnFoldTransformWrongFalsely : Prop := fnFoldTransformRow.holds Try.pinned (OpenSpec.ofChange fnFoldTransformWrong)

/-- 'laws.FnTransform': WHATEVER THE INPUT: true; the input reads as it did. -/
def fnTransformSpec : ChangeSpec := { name := "fnTransform", fn := fun _ => fun
  | [d] => { results := [.lit (.bool true)], args := [d] }
  | _ => none }
def fnTransformRow : OpenClaim := { program := "ytdcabfobmkdlmaa", sum := "e157b26b4d6712a7d84cc357f9b50681572a318da5ef888b1fc401a39205af8d", func := "loop.example/radiointerferometer/laws.FnTransform", spec := "fnTransform", apart := false }
def FnTransformSaid : Prop := fnTransformRow.holds Try.pinned (OpenSpec.ofChange fnTransformSpec)

/-- ITS FALSE NEIGHBOUR: 'it returns false'. Refute it at one input. -/
def fnTransformWrong : ChangeSpec := { name := "fnTransform", fn := fun _ => fun
  | [d] => { results := [.lit (.bool false)], args := [d] }
  | _ => none }
def FnTransformWrongFalsely : Prop := fnTransformRow.holds Try.pinned (OpenSpec.ofChange fnTransformWrong)

/-- 'laws.FnExactGridInverse': WHATEVER THE INPUT: true; the input reads as it did. -/
def fnExactGridInverseSpec : ChangeSpec := { name := "fnExactGridInverse", fn := fun _ => fun
  | [d] => { results := [.lit (.bool true)], args := [d] }
  | _ => none }
def fnExactGridInverseRow : OpenClaim := { program := "ytdcabfobmkdlmaa", sum := "e157b26b4d6712a7d84cc357f9b50681572a318da5ef888b1fc401a39205af8d", func := "loop.example/radiointerferometer/laws.FnExactGridInverse", spec := "fnExactGridInverse", apart := false }
def FnExactGridInverseSaid : Prop := fnExactGridInverseRow.holds Try.pinned (OpenSpec.ofChange fnExactGridInverseSpec)

/-- ITS FALSE NEIGHBOUR: 'it returns false'. Refute it at one input. -/
def fnExactGridInverseWrong : ChangeSpec := { name := "fnExactGridInverse", fn := fun _ => fun
  | [d] => { results := [.lit (.bool false)], args := [d] }
  | _ => none }
def FnExactGridInverseWrongFalsely : Prop := fnExactGridInverseRow.holds Try.pinned (OpenSpec.ofChange fnExactGridInverseWrong)

/-- 'laws.FnInverseOne': WHATEVER THE INPUT: true; the input reads as it did. -/
def fnInverseOneSpec : ChangeSpec := { name := "fnInverseOne", fn := fun _ => fun
  | [d1, d2] => { results := [.lit (.bool true)], args := [d1, d2] }
  | _ => none }
def fnInverseOneRow : OpenClaim := { program := "ytdcabfobmkdlmaa", sum := "e157b26b4d6712a7d84cc357f9b50681572a318da5ef888b1fc401a39205af8d", func := "loop.example/radiointerferometer/laws.FnInverseOne", spec := "fnInverseOne", apart := false }
def FnInverseOneSaid : Prop := fnInverseOneRow.holds Try.pinned (OpenSpec.ofChange fnInverseOneSpec)

/-- ITS FALSE NEIGHBOUR: 'it returns false'. Refute it at one input. -/
def fnInverseOneWrong : ChangeSpec := { name := "fnInverseOne", fn := fun _ => fun
  | [d1, d2] => { results := [.lit (.bool false)], args := [d1, d2] }
  | _ => none }
def FnInverseOneWrongFalsely : Prop := fnInverseOneRow.holds Try.pinned (OpenSpec.ofChange fnInverseOneWrong)

/-- 'laws.FnInverseTwice': WHATEVER THE INPUT: true; the input reads as it did. -/
def fnInverseTwiceSpec : ChangeSpec := { name := "fnInverseTwice", fn := fun _ => fun
  | [d] => { results := [.lit (.bool true)], args := [d] }
  | _ => none }
def fnInverseTwiceRow : OpenClaim := { program := "ytdcabfobmkdlmaa", sum := "e157b26b4d6712a7d84cc357f9b50681572a318da5ef888b1fc401a39205af8d", func := "loop.example/radiointerferometer/laws.FnInverseTwice", spec := "fnInverseTwice", apart := false }
def FnInverseTwiceSaid : Prop := fnInverseTwiceRow.holds Try.pinned (OpenSpec.ofChange fnInverseTwiceSpec)

/-- ITS FALSE NEIGHBOUR: 'it returns false'. Refute it at one input. -/
def fnInverseTwiceWrong : ChangeSpec := { name := "fnInverseTwice", fn := fun _ => fun
  | [d] => { results := [.lit (.bool false)], args := [d] }
  | _ => none }
def FnInverseTwiceWrongFalsely : Prop := fnInverseTwiceRow.holds Try.pinned (OpenSpec.ofChange fnInverseTwiceWrong)

/-- 'laws.FnInverse': WHATEVER THE INPUT: true; the input reads as it did. -/
def fnInverseSpec : ChangeSpec := { name := "fnInverse", fn := fun _ => fun
  | [d] => { results := [.lit (.bool true)], args := [d] }
  | _ => none }
def fnInverseRow : OpenClaim := { program := "ytdcabfobmkdlmaa", sum := "e157b26b4d6712a7d84cc357f9b50681572a318da5ef888b1fc401a39205af8d", func := "loop.example/radiointerferometer/laws.FnInverse", spec := "fnInverse", apart := false }
def FnInverseSaid : Prop := fnInverseRow.holds Try.pinned (OpenSpec.ofChange fnInverseSpec)

/-- ITS FALSE NEIGHBOUR: 'it returns false'. Refute it at one input. -/
def fnInverseWrong : ChangeSpec := { name := "fnInverse", fn := fun _ => fun
  | [d] => { results := [.lit (.bool false)], args := [d] }
  | _ => none }
def FnInverseWrongFalsely : Prop := fnInverseRow.holds Try.pinned (OpenSpec.ofChange fnInverseWrong)

/- THE SECOND FORM. 'bulk': how many values and letters a reading holds, each counted each time it is reached (what is shared counts as often as it is met; a slice's spare places count too). A statement '..UptoSaid' is the law's where the arguments, and the package variables that the reading takes, are together of bulk at most 1048576: NARROWER than '..Said'. Prove '..Said' where nothing that the law and all that it calls make is longer than what came in: it says more and counts as full. Else prove '..UptoSaid'. A law counts once. -/
mutual
def uptoBulk {H : Type} : DataW H → Nat
  | .lit (.string bytes) => bytes.length + 1
  | .lit _ => 1
  | .nil => 1
  | .ptr d => uptoBulk d + 1
  | .slice elems spare => uptoBulkAll elems + uptoBulkAll spare + 1
  | .agg parts => uptoBulkAll parts + 1
  | .iface _ d => uptoBulk d + 1
  | .map entries => uptoBulkEntries entries + 1
  | .held _ => 1
def uptoBulkAll {H : Type} : List (DataW H) → Nat
  | [] => 0
  | d :: r => uptoBulk d + uptoBulkAll r
def uptoBulkEntries {H : Type} : List (Lit × DataW H) → Nat
  | [] => 0
  | x :: r => uptoBulkEntry x + uptoBulkEntries r
def uptoBulkEntry {H : Type} : Lit × DataW H → Nat
  | (.string bytes, d) => bytes.length + uptoBulk d + 1
  | (_, d) => uptoBulk d + 1
 end
def uptoSmall : (H : Type) → List (DataW H) → Bool := fun _ ds => decide (uptoBulkAll ds ≤ 1048576)
def OpenSpec.upto (s : _root_.Go.ChangeSpec) : _root_.Go.OpenSpec := { _root_.Go.OpenSpec.ofChange s with cond := some uptoSmall }

/-- 'laws.FnTransformShift', WHERE WHAT IT READS IS OF BULK AT MOST 1048576: true; the input reads as it did. -/
def fnTransformShiftUptoRow : OpenClaim := { program := "ytdcabfobmkdlmaa", sum := "e157b26b4d6712a7d84cc357f9b50681572a318da5ef888b1fc401a39205af8d", func := "loop.example/radiointerferometer/laws.FnTransformShift", spec := "fnTransformShift", apart := false, narrowed := true }
def FnTransformShiftUptoSaid : Prop := fnTransformShiftUptoRow.holds Try.pinned (OpenSpec.upto fnTransformShiftSpec)

/-- 'laws.FnFoldTransform', WHERE WHAT IT READS IS OF BULK AT MOST 1048576: true; the input reads as it did. -/
def fnFoldTransformUptoRow : OpenClaim := { program := "ytdcabfobmkdlmaa", sum := "e157b26b4d6712a7d84cc357f9b50681572a318da5ef888b1fc401a39205af8d", func := "loop.example/radiointerferometer/laws.FnFoldTransform", spec := "fnFoldTransform", apart := false, narrowed := true }
def FnFoldTransformUptoSaid : Prop := fnFoldTransformUptoRow.holds Try.pinned (OpenSpec.upto fnFoldTransformSpec)

/-- 'laws.FnTransform', WHERE WHAT IT READS IS OF BULK AT MOST 1048576: true; the input reads as it did. -/
def fnTransformUptoRow : OpenClaim := { program := "ytdcabfobmkdlmaa", sum := "e157b26b4d6712a7d84cc357f9b50681572a318da5ef888b1fc401a39205af8d", func := "loop.example/radiointerferometer/laws.FnTransform", spec := "fnTransform", apart := false, narrowed := true }
def FnTransformUptoSaid : Prop := fnTransformUptoRow.holds Try.pinned (OpenSpec.upto fnTransformSpec)

/-- 'laws.FnExactGridInverse', WHERE WHAT IT READS IS OF BULK AT MOST 1048576: true; the input reads as it did. -/
def fnExactGridInverseUptoRow : OpenClaim := { program := "ytdcabfobmkdlmaa", sum := "e157b26b4d6712a7d84cc357f9b50681572a318da5ef888b1fc401a39205af8d", func := "loop.example/radiointerferometer/laws.FnExactGridInverse", spec := "fnExactGridInverse", apart := false, narrowed := true }
def FnExactGridInverseUptoSaid : Prop := fnExactGridInverseUptoRow.holds Try.pinned (OpenSpec.upto fnExactGridInverseSpec)

/-- 'laws.FnInverseOne', WHERE WHAT IT READS IS OF BULK AT MOST 1048576: true; the input reads as it did. -/
def fnInverseOneUptoRow : OpenClaim := { program := "ytdcabfobmkdlmaa", sum := "e157b26b4d6712a7d84cc357f9b50681572a318da5ef888b1fc401a39205af8d", func := "loop.example/radiointerferometer/laws.FnInverseOne", spec := "fnInverseOne", apart := false, narrowed := true }
def FnInverseOneUptoSaid : Prop := fnInverseOneUptoRow.holds Try.pinned (OpenSpec.upto fnInverseOneSpec)

/-- 'laws.FnInverseTwice', WHERE WHAT IT READS IS OF BULK AT MOST 1048576: true; the input reads as it did. -/
def fnInverseTwiceUptoRow : OpenClaim := { program := "ytdcabfobmkdlmaa", sum := "e157b26b4d6712a7d84cc357f9b50681572a318da5ef888b1fc401a39205af8d", func := "loop.example/radiointerferometer/laws.FnInverseTwice", spec := "fnInverseTwice", apart := false, narrowed := true }
def FnInverseTwiceUptoSaid : Prop := fnInverseTwiceUptoRow.holds Try.pinned (OpenSpec.upto fnInverseTwiceSpec)

/-- 'laws.FnInverse', WHERE WHAT IT READS IS OF BULK AT MOST 1048576: true; the input reads as it did. -/
def fnInverseUptoRow : OpenClaim := { program := "ytdcabfobmkdlmaa", sum := "e157b26b4d6712a7d84cc357f9b50681572a318da5ef888b1fc401a39205af8d", func := "loop.example/radiointerferometer/laws.FnInverse", spec := "fnInverse", apart := false, narrowed := true }
def FnInverseUptoSaid : Prop := fnInverseUptoRow.holds Try.pinned (OpenSpec.upto fnInverseSpec)

end Rows
end Go.Proofs.Ytdcabfobmkdlmaa
