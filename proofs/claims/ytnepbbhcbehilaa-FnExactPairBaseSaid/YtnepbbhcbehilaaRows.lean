/-
  No cell of these rows narrows 'for every input' (looked for: loops, veiled, ifaces, maps, wideKeys, modest, calm, conditions, laid).
  DERIVED. THE GIVEN ROWS OF THIS SEAT. 11 by the template 'for every input the law returns true; each argument reads behind the call as it read before'; 0 by the template 'total and deterministic' (their statements: YtnepbbhcbehilaaTotals.lean).
  GIVEN WITH THE SEED: the statements are not yours to turn. If you find one false, say at which input.
  Laid BY PROGRAM, IN A SANDBOX (cutbox-rows.mjs): the forced cells as the released guide's own fill.sh prints them over the translation d41e23c7e393135a… (all of the seat's roots in one cut). By AI agents, Wed Nov 11 2026. No macro, syntax, notation, axiom, sorry.
-/
import Derived.Test.YtnepbbhcbehilaaChecked
import GoSem.Claim
import GoSem.ClaimJoined
import GoSem.ClaimMapViews
import Derived.JoinedTies
import Derived.KernelRfl
namespace Go.Proofs.Ytnepbbhcbehilaa
/- THE CELL 'sum', in the pinned program and in every row, IS THE sha256 OF THE DUMP (.gsa) THAT YtnepbbhcbehilaaProg.lean LOADS. Nothing in Lean hashes anything: it is a label: what it is worth is what the hold of that sum in a sandbox is worth. -/
noncomputable def Try.pinned : Pinned := { name := "ytnepbbhcbehilaa", sum := "d41e23c7e393135ac2ef0133840f50d8688de96fbc81353dea01f821553a41ca", checked := Try.checked }
namespace Rows
def none {H : Type} : Left H := { results := [], args := [] }

/-- 'laws.FnExactSameWitness': WHATEVER THE INPUT: true; the input reads as it did. -/
def fnExactSameWitnessSpec : ChangeSpec := { name := "fnExactSameWitness", fn := fun _ => fun
  | [d1, d2] => { results := [.lit (.bool true)], args := [d1, d2] }
  | _ => none }
def fnExactSameWitnessRow : OpenClaim := { program := "ytnepbbhcbehilaa", sum := "d41e23c7e393135ac2ef0133840f50d8688de96fbc81353dea01f821553a41ca", func := "loop.example/g00970/laws.FnExactSameWitness", spec := "fnExactSameWitness", apart := false }
def FnExactSameWitnessSaid : Prop := fnExactSameWitnessRow.holds Try.pinned (OpenSpec.ofChange fnExactSameWitnessSpec)

/-- ITS FALSE NEIGHBOUR: 'it returns false'. Refute it at one input. -/
def fnExactSameWitnessWrong : ChangeSpec := { name := "fnExactSameWitness", fn := fun _ => fun
  | [d1, d2] => { results := [.lit (.bool false)], args := [d1, d2] }
  | _ => none }
def FnExactSameWitnessWrongFalsely : Prop := fnExactSameWitnessRow.holds Try.pinned (OpenSpec.ofChange fnExactSameWitnessWrong)

/-- 'laws.FnExactSameProof': WHATEVER THE INPUT: true; the input reads as it did. -/
def fnExactSameProofSpec : ChangeSpec := { name := "fnExactSameProof", fn := fun _ => fun
  | [d1, d2] => { results := [.lit (.bool true)], args := [d1, d2] }
  | _ => none }
def fnExactSameProofRow : OpenClaim := { program := "ytnepbbhcbehilaa", sum := "d41e23c7e393135ac2ef0133840f50d8688de96fbc81353dea01f821553a41ca", func := "loop.example/g00970/laws.FnExactSameProof", spec := "fnExactSameProof", apart := false }
def FnExactSameProofSaid : Prop := fnExactSameProofRow.holds Try.pinned (OpenSpec.ofChange fnExactSameProofSpec)

/-- ITS FALSE NEIGHBOUR: 'it returns false'. Refute it at one input. -/
def fnExactSameProofWrong : ChangeSpec := { name := "fnExactSameProof", fn := fun _ => fun
  | [d1, d2] => { results := [.lit (.bool false)], args := [d1, d2] }
  | _ => none }
def FnExactSameProofWrongFalsely : Prop := fnExactSameProofRow.holds Try.pinned (OpenSpec.ofChange fnExactSameProofWrong)

/-- 'laws.FnExactPairBase': WHATEVER THE INPUT: true; the input reads as it did. -/
def fnExactPairBaseSpec : ChangeSpec := { name := "fnExactPairBase", fn := fun _ => fun
  | [d] => { results := [.lit (.bool true)], args := [d] }
  | _ => none }
def fnExactPairBaseRow : OpenClaim := { program := "ytnepbbhcbehilaa", sum := "d41e23c7e393135ac2ef0133840f50d8688de96fbc81353dea01f821553a41ca", func := "loop.example/g00970/laws.FnExactPairBase", spec := "fnExactPairBase", inPlace := ["math/bits.Add64"], apart := false }
def FnExactPairBaseSaid : Prop := fnExactPairBaseRow.holds Try.pinned (OpenSpec.ofChange fnExactPairBaseSpec)

/-- ITS FALSE NEIGHBOUR: 'it returns false'. Refute it at one input. -/
def fnExactPairBaseWrong : ChangeSpec := { name := "fnExactPairBase", fn := fun _ => fun
  | [d] => { results := [.lit (.bool false)], args := [d] }
  | _ => none }
def FnExactPairBaseWrongFalsely : Prop := fnExactPairBaseRow.holds Try.pinned (OpenSpec.ofChange fnExactPairBaseWrong)

/-- 'laws.FnExactSameKey': WHATEVER THE INPUT: true; the input reads as it did. -/
def fnExactSameKeySpec : ChangeSpec := { name := "fnExactSameKey", fn := fun _ => fun
  | [d1, d2] => { results := [.lit (.bool true)], args := [d1, d2] }
  | _ => none }
def fnExactSameKeyRow : OpenClaim := { program := "ytnepbbhcbehilaa", sum := "d41e23c7e393135ac2ef0133840f50d8688de96fbc81353dea01f821553a41ca", func := "loop.example/g00970/laws.FnExactSameKey", spec := "fnExactSameKey", apart := false }
def FnExactSameKeySaid : Prop := fnExactSameKeyRow.holds Try.pinned (OpenSpec.ofChange fnExactSameKeySpec)

/-- ITS FALSE NEIGHBOUR: 'it returns false'. Refute it at one input. -/
def fnExactSameKeyWrong : ChangeSpec := { name := "fnExactSameKey", fn := fun _ => fun
  | [d1, d2] => { results := [.lit (.bool false)], args := [d1, d2] }
  | _ => none }
def FnExactSameKeyWrongFalsely : Prop := fnExactSameKeyRow.holds Try.pinned (OpenSpec.ofChange fnExactSameKeyWrong)

/-- 'laws.FnExactCurveOf': WHATEVER THE INPUT: true; the input reads as it did. -/
def fnExactCurveOfSpec : ChangeSpec := { name := "fnExactCurveOf", fn := fun _ => fun
  | [d] => { results := [.lit (.bool true)], args := [d] }
  | _ => none }
def fnExactCurveOfRow : OpenClaim := { program := "ytnepbbhcbehilaa", sum := "d41e23c7e393135ac2ef0133840f50d8688de96fbc81353dea01f821553a41ca", func := "loop.example/g00970/laws.FnExactCurveOf", spec := "fnExactCurveOf", inPlace := ["math/bits.Add64"], apart := false }
def FnExactCurveOfSaid : Prop := fnExactCurveOfRow.holds Try.pinned (OpenSpec.ofChange fnExactCurveOfSpec)

/-- ITS FALSE NEIGHBOUR: 'it returns false'. Refute it at one input. -/
def fnExactCurveOfWrong : ChangeSpec := { name := "fnExactCurveOf", fn := fun _ => fun
  | [d] => { results := [.lit (.bool false)], args := [d] }
  | _ => none }
def FnExactCurveOfWrongFalsely : Prop := fnExactCurveOfRow.holds Try.pinned (OpenSpec.ofChange fnExactCurveOfWrong)

/-- 'laws.FnExactTermsIn': WHATEVER THE INPUT: true; the input reads as it did. -/
def fnExactTermsInSpec : ChangeSpec := { name := "fnExactTermsIn", fn := fun _ => fun
  | [d] => { results := [.lit (.bool true)], args := [d] }
  | _ => none }
def fnExactTermsInRow : OpenClaim := { program := "ytnepbbhcbehilaa", sum := "d41e23c7e393135ac2ef0133840f50d8688de96fbc81353dea01f821553a41ca", func := "loop.example/g00970/laws.FnExactTermsIn", spec := "fnExactTermsIn", apart := false }
def FnExactTermsInSaid : Prop := fnExactTermsInRow.holds Try.pinned (OpenSpec.ofChange fnExactTermsInSpec)

/-- ITS FALSE NEIGHBOUR: 'it returns false'. Refute it at one input. -/
def fnExactTermsInWrong : ChangeSpec := { name := "fnExactTermsIn", fn := fun _ => fun
  | [d] => { results := [.lit (.bool false)], args := [d] }
  | _ => none }
def FnExactTermsInWrongFalsely : Prop := fnExactTermsInRow.holds Try.pinned (OpenSpec.ofChange fnExactTermsInWrong)

/-- 'laws.FnExactGrabLit': WHATEVER THE INPUT: true; the input reads as it did. -/
def fnExactGrabLitSpec : ChangeSpec := { name := "fnExactGrabLit", fn := fun _ => fun
  | [d1, d2] => { results := [.lit (.bool true)], args := [d1, d2] }
  | _ => none }
def fnExactGrabLitRow : OpenClaim := { program := "ytnepbbhcbehilaa", sum := "d41e23c7e393135ac2ef0133840f50d8688de96fbc81353dea01f821553a41ca", func := "loop.example/g00970/laws.FnExactGrabLit", spec := "fnExactGrabLit", apart := false }
def FnExactGrabLitSaid : Prop := fnExactGrabLitRow.holds Try.pinned (OpenSpec.ofChange fnExactGrabLitSpec)

/-- ITS FALSE NEIGHBOUR: 'it returns false'. Refute it at one input. -/
def fnExactGrabLitWrong : ChangeSpec := { name := "fnExactGrabLit", fn := fun _ => fun
  | [d1, d2] => { results := [.lit (.bool false)], args := [d1, d2] }
  | _ => none }
def FnExactGrabLitWrongFalsely : Prop := fnExactGrabLitRow.holds Try.pinned (OpenSpec.ofChange fnExactGrabLitWrong)

/-- 'laws.FnExactSameSystem': WHATEVER THE INPUT: true; the input reads as it did. -/
def fnExactSameSystemSpec : ChangeSpec := { name := "fnExactSameSystem", fn := fun _ => fun
  | [d1, d2] => { results := [.lit (.bool true)], args := [d1, d2] }
  | _ => none }
def fnExactSameSystemRow : OpenClaim := { program := "ytnepbbhcbehilaa", sum := "d41e23c7e393135ac2ef0133840f50d8688de96fbc81353dea01f821553a41ca", func := "loop.example/g00970/laws.FnExactSameSystem", spec := "fnExactSameSystem", unfollowed := true, recurses := true, apart := false }
def FnExactSameSystemSaid : Prop := fnExactSameSystemRow.holds Try.pinned (OpenSpec.ofChange fnExactSameSystemSpec)

/-- ITS FALSE NEIGHBOUR: 'it returns false'. Refute it at one input. -/
def fnExactSameSystemWrong : ChangeSpec := { name := "fnExactSameSystem", fn := fun _ => fun
  | [d1, d2] => { results := [.lit (.bool false)], args := [d1, d2] }
  | _ => none }
def FnExactSameSystemWrongFalsely : Prop := fnExactSameSystemRow.holds Try.pinned (OpenSpec.ofChange fnExactSameSystemWrong)

/-- 'laws.FnExactLabelBytes': WHATEVER THE INPUT: true; the input reads as it did. -/
def fnExactLabelBytesSpec : ChangeSpec := { name := "fnExactLabelBytes", fn := fun _ => fun
  | [d] => { results := [.lit (.bool true)], args := [d] }
  | _ => none }
def fnExactLabelBytesRow : OpenClaim := { program := "ytnepbbhcbehilaa", sum := "d41e23c7e393135ac2ef0133840f50d8688de96fbc81353dea01f821553a41ca", func := "loop.example/g00970/laws.FnExactLabelBytes", spec := "fnExactLabelBytes", inPlace := ["internal/abi.NoEscape", "internal/bytealg.MakeNoZero"], apart := false }
def FnExactLabelBytesSaid : Prop := fnExactLabelBytesRow.holds Try.pinned (OpenSpec.ofChange fnExactLabelBytesSpec)

/-- ITS FALSE NEIGHBOUR: 'it returns false'. Refute it at one input. -/
def fnExactLabelBytesWrong : ChangeSpec := { name := "fnExactLabelBytes", fn := fun _ => fun
  | [d] => { results := [.lit (.bool false)], args := [d] }
  | _ => none }
def FnExactLabelBytesWrongFalsely : Prop := fnExactLabelBytesRow.holds Try.pinned (OpenSpec.ofChange fnExactLabelBytesWrong)

/-- 'laws.FnExactGrabFigures': WHATEVER THE INPUT: true; the input reads as it did. -/
def fnExactGrabFiguresSpec : ChangeSpec := { name := "fnExactGrabFigures", fn := fun _ => fun
  | [d1, d2] => { results := [.lit (.bool true)], args := [d1, d2] }
  | _ => none }
def fnExactGrabFiguresRow : OpenClaim := { program := "ytnepbbhcbehilaa", sum := "d41e23c7e393135ac2ef0133840f50d8688de96fbc81353dea01f821553a41ca", func := "loop.example/g00970/laws.FnExactGrabFigures", spec := "fnExactGrabFigures", apart := false }
def FnExactGrabFiguresSaid : Prop := fnExactGrabFiguresRow.holds Try.pinned (OpenSpec.ofChange fnExactGrabFiguresSpec)

/-- ITS FALSE NEIGHBOUR: 'it returns false'. Refute it at one input. -/
def fnExactGrabFiguresWrong : ChangeSpec := { name := "fnExactGrabFigures", fn := fun _ => fun
  | [d1, d2] => { results := [.lit (.bool false)], args := [d1, d2] }
  | _ => none }
def FnExactGrabFiguresWrongFalsely : Prop := fnExactGrabFiguresRow.holds Try.pinned (OpenSpec.ofChange fnExactGrabFiguresWrong)

/-- 'laws.FnExactSubPair': WHATEVER THE INPUT: true; the input reads as it did. -/
def fnExactSubPairSpec : ChangeSpec := { name := "fnExactSubPair", fn := fun _ => fun
  | [d1, d2, d3] => { results := [.lit (.bool true)], args := [d1, d2, d3] }
  | _ => none }
def fnExactSubPairRow : OpenClaim := { program := "ytnepbbhcbehilaa", sum := "d41e23c7e393135ac2ef0133840f50d8688de96fbc81353dea01f821553a41ca", func := "loop.example/g00970/laws.FnExactSubPair", spec := "fnExactSubPair", inPlace := ["math/bits.Sub64", "math/bits.Add64"], recurses := true, apart := false }
def FnExactSubPairSaid : Prop := fnExactSubPairRow.holds Try.pinned (OpenSpec.ofChange fnExactSubPairSpec)

/-- ITS FALSE NEIGHBOUR: 'it returns false'. Refute it at one input. -/
def fnExactSubPairWrong : ChangeSpec := { name := "fnExactSubPair", fn := fun _ => fun
  | [d1, d2, d3] => { results := [.lit (.bool false)], args := [d1, d2, d3] }
  | _ => none }
def FnExactSubPairWrongFalsely : Prop := fnExactSubPairRow.holds Try.pinned (OpenSpec.ofChange fnExactSubPairWrong)

/- THE SECOND FORM. 'bulk': how many values and letters a reading holds, each counted each time it is reached (what is shared counts as often as it is met; a slice's spare places count too). A statement '..UptoSaid' is the law's where the arguments, and the package variables that the reading takes, are together of bulk at most 1048576: NARROWER than '..Said'. Prove '..Said' where nothing that the law and all that it calls make is longer than what came in: it says more and counts as full. Else prove '..UptoSaid'. A law counts once. -/
mutual
def uptoBulk {H : Type} : DataW H → Nat
  | .lit (.string bytes) => bytes.length + 1
  | .lit _ => 1
  | .nil => 1
  | .ptr d => uptoBulk d + 1
  | .slice elems spare => uptoBulkAll elems + uptoBulkAll spare + 1
  | .agg parts => uptoBulkAll parts + 1
  | .iface _ d => uptoBulk d + 1
  | .map entries => uptoBulkEntries entries + 1
  | .held _ => 1
def uptoBulkAll {H : Type} : List (DataW H) → Nat
  | [] => 0
  | d :: r => uptoBulk d + uptoBulkAll r
def uptoBulkEntries {H : Type} : List (Lit × DataW H) → Nat
  | [] => 0
  | x :: r => uptoBulkEntry x + uptoBulkEntries r
def uptoBulkEntry {H : Type} : Lit × DataW H → Nat
  | (.string bytes, d) => bytes.length + uptoBulk d + 1
  | (_, d) => uptoBulk d + 1
 end
def uptoSmall : (H : Type) → List (DataW H) → Bool := fun _ ds => decide (uptoBulkAll ds ≤ 1048576)
def OpenSpec.upto (s : _root_.Go.ChangeSpec) : _root_.Go.OpenSpec := { _root_.Go.OpenSpec.ofChange s with cond := some uptoSmall }

/-- 'laws.FnExactSameWitness', WHERE WHAT IT READS IS OF BULK AT MOST 1048576: true; the input reads as it did. -/
def fnExactSameWitnessUptoRow : OpenClaim := { program := "ytnepbbhcbehilaa", sum := "d41e23c7e393135ac2ef0133840f50d8688de96fbc81353dea01f821553a41ca", func := "loop.example/g00970/laws.FnExactSameWitness", spec := "fnExactSameWitness", apart := false, narrowed := true }
def FnExactSameWitnessUptoSaid : Prop := fnExactSameWitnessUptoRow.holds Try.pinned (OpenSpec.upto fnExactSameWitnessSpec)

/-- 'laws.FnExactSameProof', WHERE WHAT IT READS IS OF BULK AT MOST 1048576: true; the input reads as it did. -/
def fnExactSameProofUptoRow : OpenClaim := { program := "ytnepbbhcbehilaa", sum := "d41e23c7e393135ac2ef0133840f50d8688de96fbc81353dea01f821553a41ca", func := "loop.example/g00970/laws.FnExactSameProof", spec := "fnExactSameProof", apart := false, narrowed := true }
def FnExactSameProofUptoSaid : Prop := fnExactSameProofUptoRow.holds Try.pinned (OpenSpec.upto fnExactSameProofSpec)

/-- 'laws.FnExactPairBase', WHERE WHAT IT READS IS OF BULK AT MOST 1048576: true; the input reads as it did. -/
def fnExactPairBaseUptoRow : OpenClaim := { program := "ytnepbbhcbehilaa", sum := "d41e23c7e393135ac2ef0133840f50d8688de96fbc81353dea01f821553a41ca", func := "loop.example/g00970/laws.FnExactPairBase", spec := "fnExactPairBase", inPlace := ["math/bits.Add64"], apart := false, narrowed := true }
def FnExactPairBaseUptoSaid : Prop := fnExactPairBaseUptoRow.holds Try.pinned (OpenSpec.upto fnExactPairBaseSpec)

/-- 'laws.FnExactSameKey', WHERE WHAT IT READS IS OF BULK AT MOST 1048576: true; the input reads as it did. -/
def fnExactSameKeyUptoRow : OpenClaim := { program := "ytnepbbhcbehilaa", sum := "d41e23c7e393135ac2ef0133840f50d8688de96fbc81353dea01f821553a41ca", func := "loop.example/g00970/laws.FnExactSameKey", spec := "fnExactSameKey", apart := false, narrowed := true }
def FnExactSameKeyUptoSaid : Prop := fnExactSameKeyUptoRow.holds Try.pinned (OpenSpec.upto fnExactSameKeySpec)

/-- 'laws.FnExactCurveOf', WHERE WHAT IT READS IS OF BULK AT MOST 1048576: true; the input reads as it did. -/
def fnExactCurveOfUptoRow : OpenClaim := { program := "ytnepbbhcbehilaa", sum := "d41e23c7e393135ac2ef0133840f50d8688de96fbc81353dea01f821553a41ca", func := "loop.example/g00970/laws.FnExactCurveOf", spec := "fnExactCurveOf", inPlace := ["math/bits.Add64"], apart := false, narrowed := true }
def FnExactCurveOfUptoSaid : Prop := fnExactCurveOfUptoRow.holds Try.pinned (OpenSpec.upto fnExactCurveOfSpec)

/-- 'laws.FnExactTermsIn', WHERE WHAT IT READS IS OF BULK AT MOST 1048576: true; the input reads as it did. -/
def fnExactTermsInUptoRow : OpenClaim := { program := "ytnepbbhcbehilaa", sum := "d41e23c7e393135ac2ef0133840f50d8688de96fbc81353dea01f821553a41ca", func := "loop.example/g00970/laws.FnExactTermsIn", spec := "fnExactTermsIn", apart := false, narrowed := true }
def FnExactTermsInUptoSaid : Prop := fnExactTermsInUptoRow.holds Try.pinned (OpenSpec.upto fnExactTermsInSpec)

/-- 'laws.FnExactGrabLit', WHERE WHAT IT READS IS OF BULK AT MOST 1048576: true; the input reads as it did. -/
def fnExactGrabLitUptoRow : OpenClaim := { program := "ytnepbbhcbehilaa", sum := "d41e23c7e393135ac2ef0133840f50d8688de96fbc81353dea01f821553a41ca", func := "loop.example/g00970/laws.FnExactGrabLit", spec := "fnExactGrabLit", apart := false, narrowed := true }
def FnExactGrabLitUptoSaid : Prop := fnExactGrabLitUptoRow.holds Try.pinned (OpenSpec.upto fnExactGrabLitSpec)

/-- 'laws.FnExactSameSystem', WHERE WHAT IT READS IS OF BULK AT MOST 1048576: true; the input reads as it did. -/
def fnExactSameSystemUptoRow : OpenClaim := { program := "ytnepbbhcbehilaa", sum := "d41e23c7e393135ac2ef0133840f50d8688de96fbc81353dea01f821553a41ca", func := "loop.example/g00970/laws.FnExactSameSystem", spec := "fnExactSameSystem", unfollowed := true, recurses := true, apart := false, narrowed := true }
def FnExactSameSystemUptoSaid : Prop := fnExactSameSystemUptoRow.holds Try.pinned (OpenSpec.upto fnExactSameSystemSpec)

/-- 'laws.FnExactLabelBytes', WHERE WHAT IT READS IS OF BULK AT MOST 1048576: true; the input reads as it did. -/
def fnExactLabelBytesUptoRow : OpenClaim := { program := "ytnepbbhcbehilaa", sum := "d41e23c7e393135ac2ef0133840f50d8688de96fbc81353dea01f821553a41ca", func := "loop.example/g00970/laws.FnExactLabelBytes", spec := "fnExactLabelBytes", inPlace := ["internal/abi.NoEscape", "internal/bytealg.MakeNoZero"], apart := false, narrowed := true }
def FnExactLabelBytesUptoSaid : Prop := fnExactLabelBytesUptoRow.holds Try.pinned (OpenSpec.upto fnExactLabelBytesSpec)

/-- 'laws.FnExactGrabFigures', WHERE WHAT IT READS IS OF BULK AT MOST 1048576: true; the input reads as it did. -/
def fnExactGrabFiguresUptoRow : OpenClaim := { program := "ytnepbbhcbehilaa", sum := "d41e23c7e393135ac2ef0133840f50d8688de96fbc81353dea01f821553a41ca", func := "loop.example/g00970/laws.FnExactGrabFigures", spec := "fnExactGrabFigures", apart := false, narrowed := true }
def FnExactGrabFiguresUptoSaid : Prop := fnExactGrabFiguresUptoRow.holds Try.pinned (OpenSpec.upto fnExactGrabFiguresSpec)

/-- 'laws.FnExactSubPair', WHERE WHAT IT READS IS OF BULK AT MOST 1048576: true; the input reads as it did. -/
def fnExactSubPairUptoRow : OpenClaim := { program := "ytnepbbhcbehilaa", sum := "d41e23c7e393135ac2ef0133840f50d8688de96fbc81353dea01f821553a41ca", func := "loop.example/g00970/laws.FnExactSubPair", spec := "fnExactSubPair", inPlace := ["math/bits.Sub64", "math/bits.Add64"], recurses := true, apart := false, narrowed := true }
def FnExactSubPairUptoSaid : Prop := fnExactSubPairUptoRow.holds Try.pinned (OpenSpec.upto fnExactSubPairSpec)

end Rows
end Go.Proofs.Ytnepbbhcbehilaa
