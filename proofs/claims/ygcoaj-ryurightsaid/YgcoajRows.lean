/-
  No cell of these rows narrows 'for every input' (looked for: loops, veiled, ifaces, maps, wideKeys, modest, calm, conditions, laid).
  DERIVED. THE GIVEN ROWS OF THIS SEAT. 12 by the template 'for every input the law returns true; each argument reads behind the call as it read before'; 0 by the template 'total and deterministic' (their statements: YgcoajTotals.lean).
  GIVEN WITH THE SEED: the statements are not yours to turn. If you find one false, say at which input.
  Laid BY PROGRAM, IN A SANDBOX (cutbox-rows.mjs): the forced cells as the released guide's own fill.sh prints them over the translation f619ec4bbb1b3832… (all of the seat's roots in one cut). By AI agents, Wed Nov 11 2026. No macro, syntax, notation, axiom, sorry.
-/
import Derived.Test.YgcoajChecked
import GoSem.Claim
import GoSem.ClaimJoined
import GoSem.ClaimMapViews
import Derived.JoinedTies
import Derived.KernelRfl
namespace Go.Proofs.Ygcoaj
/- THE CELL 'sum', in the pinned program and in every row, IS THE sha256 OF THE DUMP (.gsa) THAT YgcoajProg.lean LOADS. Nothing in Lean hashes anything: it is a label: what it is worth is what the hold of that sum in a sandbox is worth. -/
noncomputable def Oajg.pinned : Pinned := { name := "ygcoaj", sum := "f619ec4bbb1b38328b80b14889ac805caf5b65444d844cd2b77f4b66cbeeb91b", checked := Oajg.checked }
namespace Rows
def none {H : Type} : Left H := { results := [], args := [] }

/-- 'law.RyuRight': WHATEVER THE INPUT: true; the input reads as it did. -/
def ryuRightSpec : ChangeSpec := { name := "ryuRight", fn := fun _ => fun
  | [d1, d2] => { results := [.lit (.bool true)], args := [d1, d2] }
  | _ => none }
def ryuRightRow : OpenClaim := { program := "ygcoaj", sum := "f619ec4bbb1b38328b80b14889ac805caf5b65444d844cd2b77f4b66cbeeb91b", func := "softfloat/law.RyuRight", spec := "ryuRight", apart := false }
def RyuRightSaid : Prop := ryuRightRow.holds Oajg.pinned (OpenSpec.ofChange ryuRightSpec)

/-- ITS FALSE NEIGHBOUR: 'it returns false'. Refute it at one input. -/
def ryuRightWrong : ChangeSpec := { name := "ryuRight", fn := fun _ => fun
  | [d1, d2] => { results := [.lit (.bool false)], args := [d1, d2] }
  | _ => none }
def RyuRightWrongFalsely : Prop := ryuRightRow.holds Oajg.pinned (OpenSpec.ofChange ryuRightWrong)

/-- 'law.ExactScale': WHATEVER THE INPUT: true; the input reads as it did. -/
def exactScaleSpec : ChangeSpec := { name := "exactScale", fn := fun _ => fun
  | [d1, d2, d3, d4] => { results := [.lit (.bool true)], args := [d1, d2, d3, d4] }
  | _ => none }
def exactScaleRow : OpenClaim := { program := "ygcoaj", sum := "f619ec4bbb1b38328b80b14889ac805caf5b65444d844cd2b77f4b66cbeeb91b", func := "softfloat/law.ExactScale", spec := "exactScale", apart := false }
def ExactScaleSaid : Prop := exactScaleRow.holds Oajg.pinned (OpenSpec.ofChange exactScaleSpec)

/-- ITS FALSE NEIGHBOUR: 'it returns false'. Refute it at one input. -/
def exactScaleWrong : ChangeSpec := { name := "exactScale", fn := fun _ => fun
  | [d1, d2, d3, d4] => { results := [.lit (.bool false)], args := [d1, d2, d3, d4] }
  | _ => none }
def ExactScaleWrongFalsely : Prop := exactScaleRow.holds Oajg.pinned (OpenSpec.ofChange exactScaleWrong)

/-- 'law.SoftScale': WHATEVER THE INPUT: true; the input reads as it did. -/
def softScaleSpec : ChangeSpec := { name := "softScale", fn := fun _ => fun
  | [d1, d2, d3, d4] => { results := [.lit (.bool true)], args := [d1, d2, d3, d4] }
  | _ => none }
def softScaleRow : OpenClaim := { program := "ygcoaj", sum := "f619ec4bbb1b38328b80b14889ac805caf5b65444d844cd2b77f4b66cbeeb91b", func := "softfloat/law.SoftScale", spec := "softScale", apart := false }
def SoftScaleSaid : Prop := softScaleRow.holds Oajg.pinned (OpenSpec.ofChange softScaleSpec)

/-- ITS FALSE NEIGHBOUR: 'it returns false'. Refute it at one input. -/
def softScaleWrong : ChangeSpec := { name := "softScale", fn := fun _ => fun
  | [d1, d2, d3, d4] => { results := [.lit (.bool false)], args := [d1, d2, d3, d4] }
  | _ => none }
def SoftScaleWrongFalsely : Prop := softScaleRow.holds Oajg.pinned (OpenSpec.ofChange softScaleWrong)

/-- 'law.NativeScale': WHATEVER THE INPUT: true; the input reads as it did. -/
def nativeScaleSpec : ChangeSpec := { name := "nativeScale", fn := fun _ => fun
  | [d1, d2, d3] => { results := [.lit (.bool true)], args := [d1, d2, d3] }
  | _ => none }
def nativeScaleRow : OpenClaim := { program := "ygcoaj", sum := "f619ec4bbb1b38328b80b14889ac805caf5b65444d844cd2b77f4b66cbeeb91b", func := "softfloat/law.NativeScale", spec := "nativeScale", inPlace := ["math.Float64frombits", "math.Float64bits", "math.Float32frombits", "math.Float32bits"], apart := false }
def NativeScaleSaid : Prop := nativeScaleRow.holds Oajg.pinned (OpenSpec.ofChange nativeScaleSpec)

/-- ITS FALSE NEIGHBOUR: 'it returns false'. Refute it at one input. -/
def nativeScaleWrong : ChangeSpec := { name := "nativeScale", fn := fun _ => fun
  | [d1, d2, d3] => { results := [.lit (.bool false)], args := [d1, d2, d3] }
  | _ => none }
def NativeScaleWrongFalsely : Prop := nativeScaleRow.holds Oajg.pinned (OpenSpec.ofChange nativeScaleWrong)

/-- 'law.ScanParts': WHATEVER THE INPUT: true; the input reads as it did. -/
def scanPartsSpec : ChangeSpec := { name := "scanParts", fn := fun _ => fun
  | [d1, d2, d3, d4, d5, d6, d7] => { results := [.lit (.bool true)], args := [d1, d2, d3, d4, d5, d6, d7] }
  | _ => none }
def scanPartsRow : OpenClaim := { program := "ygcoaj", sum := "f619ec4bbb1b38328b80b14889ac805caf5b65444d844cd2b77f4b66cbeeb91b", func := "softfloat/law.ScanParts", spec := "scanParts", apart := false }
def ScanPartsSaid : Prop := scanPartsRow.holds Oajg.pinned (OpenSpec.ofChange scanPartsSpec)

/-- ITS FALSE NEIGHBOUR: 'it returns false'. Refute it at one input. -/
def scanPartsWrong : ChangeSpec := { name := "scanParts", fn := fun _ => fun
  | [d1, d2, d3, d4, d5, d6, d7] => { results := [.lit (.bool false)], args := [d1, d2, d3, d4, d5, d6, d7] }
  | _ => none }
def ScanPartsWrongFalsely : Prop := scanPartsRow.holds Oajg.pinned (OpenSpec.ofChange scanPartsWrong)

/-- 'law.ScanWords': WHATEVER THE INPUT: true; the input reads as it did. -/
def scanWordsSpec : ChangeSpec := { name := "scanWords", fn := fun _ => fun
  | [d1, d2] => { results := [.lit (.bool true)], args := [d1, d2] }
  | _ => none }
def scanWordsRow : OpenClaim := { program := "ygcoaj", sum := "f619ec4bbb1b38328b80b14889ac805caf5b65444d844cd2b77f4b66cbeeb91b", func := "softfloat/law.ScanWords", spec := "scanWords", apart := false }
def ScanWordsSaid : Prop := scanWordsRow.holds Oajg.pinned (OpenSpec.ofChange scanWordsSpec)

/-- ITS FALSE NEIGHBOUR: 'it returns false'. Refute it at one input. -/
def scanWordsWrong : ChangeSpec := { name := "scanWords", fn := fun _ => fun
  | [d1, d2] => { results := [.lit (.bool false)], args := [d1, d2] }
  | _ => none }
def ScanWordsWrongFalsely : Prop := scanWordsRow.holds Oajg.pinned (OpenSpec.ofChange scanWordsWrong)

/-- 'law.ScanShape': WHATEVER THE INPUT: true; the input reads as it did. -/
def scanShapeSpec : ChangeSpec := { name := "scanShape", fn := fun _ => fun
  | [d] => { results := [.lit (.bool true)], args := [d] }
  | _ => none }
def scanShapeRow : OpenClaim := { program := "ygcoaj", sum := "f619ec4bbb1b38328b80b14889ac805caf5b65444d844cd2b77f4b66cbeeb91b", func := "softfloat/law.ScanShape", spec := "scanShape", apart := false }
def ScanShapeSaid : Prop := scanShapeRow.holds Oajg.pinned (OpenSpec.ofChange scanShapeSpec)

/-- ITS FALSE NEIGHBOUR: 'it returns false'. Refute it at one input. -/
def scanShapeWrong : ChangeSpec := { name := "scanShape", fn := fun _ => fun
  | [d] => { results := [.lit (.bool false)], args := [d] }
  | _ => none }
def ScanShapeWrongFalsely : Prop := scanShapeRow.holds Oajg.pinned (OpenSpec.ofChange scanShapeWrong)

/-- 'law.WrongPlace': WHATEVER THE INPUT: true; the input reads as it did. -/
def wrongPlaceSpec : ChangeSpec := { name := "wrongPlace", fn := fun _ => fun
  | [d1, d2] => { results := [.lit (.bool true)], args := [d1, d2] }
  | _ => none }
def wrongPlaceRow : OpenClaim := { program := "ygcoaj", sum := "f619ec4bbb1b38328b80b14889ac805caf5b65444d844cd2b77f4b66cbeeb91b", func := "softfloat/law.WrongPlace", spec := "wrongPlace", apart := false }
def WrongPlaceSaid : Prop := wrongPlaceRow.holds Oajg.pinned (OpenSpec.ofChange wrongPlaceSpec)

/-- ITS FALSE NEIGHBOUR: 'it returns false'. Refute it at one input. -/
def wrongPlaceWrong : ChangeSpec := { name := "wrongPlace", fn := fun _ => fun
  | [d1, d2] => { results := [.lit (.bool false)], args := [d1, d2] }
  | _ => none }
def WrongPlaceWrongFalsely : Prop := wrongPlaceRow.holds Oajg.pinned (OpenSpec.ofChange wrongPlaceWrong)

/-- 'law.SoftBin': WHATEVER THE INPUT: true; the input reads as it did. -/
def softBinSpec : ChangeSpec := { name := "softBin", fn := fun _ => fun
  | [d1, d2, d3, d4, d5] => { results := [.lit (.bool true)], args := [d1, d2, d3, d4, d5] }
  | _ => none }
def softBinRow : OpenClaim := { program := "ygcoaj", sum := "f619ec4bbb1b38328b80b14889ac805caf5b65444d844cd2b77f4b66cbeeb91b", func := "softfloat/law.SoftBin", spec := "softBin", apart := false }
def SoftBinSaid : Prop := softBinRow.holds Oajg.pinned (OpenSpec.ofChange softBinSpec)

/-- ITS FALSE NEIGHBOUR: 'it returns false'. Refute it at one input. -/
def softBinWrong : ChangeSpec := { name := "softBin", fn := fun _ => fun
  | [d1, d2, d3, d4, d5] => { results := [.lit (.bool false)], args := [d1, d2, d3, d4, d5] }
  | _ => none }
def SoftBinWrongFalsely : Prop := softBinRow.holds Oajg.pinned (OpenSpec.ofChange softBinWrong)

/-- 'law.SoftSqrt': WHATEVER THE INPUT: true; the input reads as it did. -/
def softSqrtSpec : ChangeSpec := { name := "softSqrt", fn := fun _ => fun
  | [d1, d2, d3] => { results := [.lit (.bool true)], args := [d1, d2, d3] }
  | _ => none }
def softSqrtRow : OpenClaim := { program := "ygcoaj", sum := "f619ec4bbb1b38328b80b14889ac805caf5b65444d844cd2b77f4b66cbeeb91b", func := "softfloat/law.SoftSqrt", spec := "softSqrt", apart := false }
def SoftSqrtSaid : Prop := softSqrtRow.holds Oajg.pinned (OpenSpec.ofChange softSqrtSpec)

/-- ITS FALSE NEIGHBOUR: 'it returns false'. Refute it at one input. -/
def softSqrtWrong : ChangeSpec := { name := "softSqrt", fn := fun _ => fun
  | [d1, d2, d3] => { results := [.lit (.bool false)], args := [d1, d2, d3] }
  | _ => none }
def SoftSqrtWrongFalsely : Prop := softSqrtRow.holds Oajg.pinned (OpenSpec.ofChange softSqrtWrong)

/-- 'law.SoftConvert': WHATEVER THE INPUT: true; the input reads as it did. -/
def softConvertSpec : ChangeSpec := { name := "softConvert", fn := fun _ => fun
  | [d1, d2, d3, d4] => { results := [.lit (.bool true)], args := [d1, d2, d3, d4] }
  | _ => none }
def softConvertRow : OpenClaim := { program := "ygcoaj", sum := "f619ec4bbb1b38328b80b14889ac805caf5b65444d844cd2b77f4b66cbeeb91b", func := "softfloat/law.SoftConvert", spec := "softConvert", apart := false }
def SoftConvertSaid : Prop := softConvertRow.holds Oajg.pinned (OpenSpec.ofChange softConvertSpec)

/-- ITS FALSE NEIGHBOUR: 'it returns false'. Refute it at one input. -/
def softConvertWrong : ChangeSpec := { name := "softConvert", fn := fun _ => fun
  | [d1, d2, d3, d4] => { results := [.lit (.bool false)], args := [d1, d2, d3, d4] }
  | _ => none }
def SoftConvertWrongFalsely : Prop := softConvertRow.holds Oajg.pinned (OpenSpec.ofChange softConvertWrong)

/-- 'law.SoftCmp': WHATEVER THE INPUT: true; the input reads as it did. -/
def softCmpSpec : ChangeSpec := { name := "softCmp", fn := fun _ => fun
  | [d1, d2, d3] => { results := [.lit (.bool true)], args := [d1, d2, d3] }
  | _ => none }
def softCmpRow : OpenClaim := { program := "ygcoaj", sum := "f619ec4bbb1b38328b80b14889ac805caf5b65444d844cd2b77f4b66cbeeb91b", func := "softfloat/law.SoftCmp", spec := "softCmp", apart := false }
def SoftCmpSaid : Prop := softCmpRow.holds Oajg.pinned (OpenSpec.ofChange softCmpSpec)

/-- ITS FALSE NEIGHBOUR: 'it returns false'. Refute it at one input. -/
def softCmpWrong : ChangeSpec := { name := "softCmp", fn := fun _ => fun
  | [d1, d2, d3] => { results := [.lit (.bool false)], args := [d1, d2, d3] }
  | _ => none }
def SoftCmpWrongFalsely : Prop := softCmpRow.holds Oajg.pinned (OpenSpec.ofChange softCmpWrong)

end Rows
end Go.Proofs.Ygcoaj
