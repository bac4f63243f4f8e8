/-
  No cell of these rows narrows 'for every input' (looked for: loops, veiled, ifaces, maps, wideKeys, modest, calm, conditions, laid).
  DERIVED. THE GIVEN ROWS OF THIS SEAT. 11 by the template 'for every input the law returns true; each argument reads behind the call as it read before'; 0 by the template 'total and deterministic' (their statements: YtgafdhpagifpcaaTotals.lean).
  GIVEN WITH THE SEED: the statements are not yours to turn. If you find one false, say at which input.
  Laid BY PROGRAM, IN A SANDBOX (cutbox-rows.mjs): the forced cells as the released guide's own fill.sh prints them over the translation d669a5222f3c673e… (all of the seat's roots in one cut). By AI agents, Wed Nov 11 2026. No macro, syntax, notation, axiom, sorry.
-/
import Derived.Test.YtgafdhpagifpcaaChecked
import GoSem.Claim
import GoSem.ClaimJoined
import GoSem.ClaimMapViews
import Derived.JoinedTies
import Derived.KernelRfl
namespace Go.Proofs.Ytgafdhpagifpcaa
/- THE CELL 'sum', in the pinned program and in every row, IS THE sha256 OF THE DUMP (.gsa) THAT YtgafdhpagifpcaaProg.lean LOADS. Nothing in Lean hashes anything: it is a label: what it is worth is what the hold of that sum in a sandbox is worth. -/
noncomputable def Try.pinned : Pinned := { name := "ytgafdhpagifpcaa", sum := "d669a5222f3c673e3126dbf36c2595e1198e21dc028d79f06234584c3b9410ce", checked := Try.checked }
namespace Rows
def none {H : Type} : Left H := { results := [], args := [] }

/-- 'laws.FnExactAddPair': WHATEVER THE INPUT: true; the input reads as it did. -/
def fnExactAddPairSpec : ChangeSpec := { name := "fnExactAddPair", fn := fun _ => fun
  | [d1, d2, d3] => { results := [.lit (.bool true)], args := [d1, d2, d3] }
  | _ => none }
def fnExactAddPairRow : OpenClaim := { program := "ytgafdhpagifpcaa", sum := "d669a5222f3c673e3126dbf36c2595e1198e21dc028d79f06234584c3b9410ce", func := "loop.example/g00970/laws.FnExactAddPair", spec := "fnExactAddPair", inPlace := ["math/bits.Add64", "math/bits.Sub64"], recurses := true, apart := false }
def FnExactAddPairSaid : Prop := fnExactAddPairRow.holds Try.pinned (OpenSpec.ofChange fnExactAddPairSpec)

/-- ITS FALSE NEIGHBOUR: 'it returns false'. Refute it at one input. -/
def fnExactAddPairWrong : ChangeSpec := { name := "fnExactAddPair", fn := fun _ => fun
  | [d1, d2, d3] => { results := [.lit (.bool false)], args := [d1, d2, d3] }
  | _ => none }
def FnExactAddPairWrongFalsely : Prop := fnExactAddPairRow.holds Try.pinned (OpenSpec.ofChange fnExactAddPairWrong)

/-- 'laws.FnExactNegPair': WHATEVER THE INPUT: true; the input reads as it did. -/
def fnExactNegPairSpec : ChangeSpec := { name := "fnExactNegPair", fn := fun _ => fun
  | [d1, d2] => { results := [.lit (.bool true)], args := [d1, d2] }
  | _ => none }
def fnExactNegPairRow : OpenClaim := { program := "ytgafdhpagifpcaa", sum := "d669a5222f3c673e3126dbf36c2595e1198e21dc028d79f06234584c3b9410ce", func := "loop.example/g00970/laws.FnExactNegPair", spec := "fnExactNegPair", inPlace := ["math/bits.Sub64", "math/bits.Add64"], recurses := true, apart := false }
def FnExactNegPairSaid : Prop := fnExactNegPairRow.holds Try.pinned (OpenSpec.ofChange fnExactNegPairSpec)

/-- ITS FALSE NEIGHBOUR: 'it returns false'. Refute it at one input. -/
def fnExactNegPairWrong : ChangeSpec := { name := "fnExactNegPair", fn := fun _ => fun
  | [d1, d2] => { results := [.lit (.bool false)], args := [d1, d2] }
  | _ => none }
def FnExactNegPairWrongFalsely : Prop := fnExactNegPairRow.holds Try.pinned (OpenSpec.ofChange fnExactNegPairWrong)

/-- 'laws.FnExactMulPair': WHATEVER THE INPUT: true; the input reads as it did. -/
def fnExactMulPairSpec : ChangeSpec := { name := "fnExactMulPair", fn := fun _ => fun
  | [d1, d2, d3] => { results := [.lit (.bool true)], args := [d1, d2, d3] }
  | _ => none }
def fnExactMulPairRow : OpenClaim := { program := "ytgafdhpagifpcaa", sum := "d669a5222f3c673e3126dbf36c2595e1198e21dc028d79f06234584c3b9410ce", func := "loop.example/g00970/laws.FnExactMulPair", spec := "fnExactMulPair", inPlace := ["math/bits.Add64", "math/bits.Sub64"], recurses := true, named := ["math/bits.divideError", "math/bits.overflowError"], apart := false }
def FnExactMulPairSaid : Prop := fnExactMulPairRow.holds Try.pinned (OpenSpec.ofChange fnExactMulPairSpec)

/-- ITS FALSE NEIGHBOUR: 'it returns false'. Refute it at one input. -/
def fnExactMulPairWrong : ChangeSpec := { name := "fnExactMulPair", fn := fun _ => fun
  | [d1, d2, d3] => { results := [.lit (.bool false)], args := [d1, d2, d3] }
  | _ => none }
def FnExactMulPairWrongFalsely : Prop := fnExactMulPairRow.holds Try.pinned (OpenSpec.ofChange fnExactMulPairWrong)

/-- 'laws.FnExactInversePair': WHATEVER THE INPUT: true; the input reads as it did. -/
def fnExactInversePairSpec : ChangeSpec := { name := "fnExactInversePair", fn := fun _ => fun
  | [d1, d2] => { results := [.lit (.bool true)], args := [d1, d2] }
  | _ => none }
def fnExactInversePairRow : OpenClaim := { program := "ytgafdhpagifpcaa", sum := "d669a5222f3c673e3126dbf36c2595e1198e21dc028d79f06234584c3b9410ce", func := "loop.example/g00970/laws.FnExactInversePair", spec := "fnExactInversePair", inPlace := ["math/bits.Add64", "math/bits.Sub64"], recurses := true, named := ["math/bits.divideError", "math/bits.overflowError"], apart := false }
def FnExactInversePairSaid : Prop := fnExactInversePairRow.holds Try.pinned (OpenSpec.ofChange fnExactInversePairSpec)

/-- ITS FALSE NEIGHBOUR: 'it returns false'. Refute it at one input. -/
def fnExactInversePairWrong : ChangeSpec := { name := "fnExactInversePair", fn := fun _ => fun
  | [d1, d2] => { results := [.lit (.bool false)], args := [d1, d2] }
  | _ => none }
def FnExactInversePairWrongFalsely : Prop := fnExactInversePairRow.holds Try.pinned (OpenSpec.ofChange fnExactInversePairWrong)

/-- 'laws.FnExactPowPair': WHATEVER THE INPUT: true; the input reads as it did. -/
def fnExactPowPairSpec : ChangeSpec := { name := "fnExactPowPair", fn := fun _ => fun
  | [d1, d2, d3] => { results := [.lit (.bool true)], args := [d1, d2, d3] }
  | _ => none }
def fnExactPowPairRow : OpenClaim := { program := "ytgafdhpagifpcaa", sum := "d669a5222f3c673e3126dbf36c2595e1198e21dc028d79f06234584c3b9410ce", func := "loop.example/g00970/laws.FnExactPowPair", spec := "fnExactPowPair", inPlace := ["math/bits.Add64", "math/bits.Sub64"], recurses := true, named := ["math/bits.divideError", "math/bits.overflowError"], apart := false }
def FnExactPowPairSaid : Prop := fnExactPowPairRow.holds Try.pinned (OpenSpec.ofChange fnExactPowPairSpec)

/-- ITS FALSE NEIGHBOUR: 'it returns false'. Refute it at one input. -/
def fnExactPowPairWrong : ChangeSpec := { name := "fnExactPowPair", fn := fun _ => fun
  | [d1, d2, d3] => { results := [.lit (.bool false)], args := [d1, d2, d3] }
  | _ => none }
def FnExactPowPairWrongFalsely : Prop := fnExactPowPairRow.holds Try.pinned (OpenSpec.ofChange fnExactPowPairWrong)

/-- 'laws.FnExactCubeAndPair': WHATEVER THE INPUT: true; the input reads as it did. -/
def fnExactCubeAndPairSpec : ChangeSpec := { name := "fnExactCubeAndPair", fn := fun _ => fun
  | [d1, d2] => { results := [.lit (.bool true)], args := [d1, d2] }
  | _ => none }
def fnExactCubeAndPairRow : OpenClaim := { program := "ytgafdhpagifpcaa", sum := "d669a5222f3c673e3126dbf36c2595e1198e21dc028d79f06234584c3b9410ce", func := "loop.example/g00970/laws.FnExactCubeAndPair", spec := "fnExactCubeAndPair", inPlace := ["math/bits.Add64", "math/bits.Sub64"], recurses := true, named := ["math/bits.divideError", "math/bits.overflowError"], apart := false }
def FnExactCubeAndPairSaid : Prop := fnExactCubeAndPairRow.holds Try.pinned (OpenSpec.ofChange fnExactCubeAndPairSpec)

/-- ITS FALSE NEIGHBOUR: 'it returns false'. Refute it at one input. -/
def fnExactCubeAndPairWrong : ChangeSpec := { name := "fnExactCubeAndPair", fn := fun _ => fun
  | [d1, d2] => { results := [.lit (.bool false)], args := [d1, d2] }
  | _ => none }
def FnExactCubeAndPairWrongFalsely : Prop := fnExactCubeAndPairRow.holds Try.pinned (OpenSpec.ofChange fnExactCubeAndPairWrong)

/-- 'laws.FnExactPairSquare': WHATEVER THE INPUT: true; the input reads as it did. -/
def fnExactPairSquareSpec : ChangeSpec := { name := "fnExactPairSquare", fn := fun _ => fun
  | [d1, d2] => { results := [.lit (.bool true)], args := [d1, d2] }
  | _ => none }
def fnExactPairSquareRow : OpenClaim := { program := "ytgafdhpagifpcaa", sum := "d669a5222f3c673e3126dbf36c2595e1198e21dc028d79f06234584c3b9410ce", func := "loop.example/g00970/laws.FnExactPairSquare", spec := "fnExactPairSquare", inPlace := ["math/bits.Add64", "math/bits.Sub64"], recurses := true, named := ["math/bits.divideError", "math/bits.overflowError"], apart := false }
def FnExactPairSquareSaid : Prop := fnExactPairSquareRow.holds Try.pinned (OpenSpec.ofChange fnExactPairSquareSpec)

/-- ITS FALSE NEIGHBOUR: 'it returns false'. Refute it at one input. -/
def fnExactPairSquareWrong : ChangeSpec := { name := "fnExactPairSquare", fn := fun _ => fun
  | [d1, d2] => { results := [.lit (.bool false)], args := [d1, d2] }
  | _ => none }
def FnExactPairSquareWrongFalsely : Prop := fnExactPairSquareRow.holds Try.pinned (OpenSpec.ofChange fnExactPairSquareWrong)

/-- 'laws.FnPairs': WHATEVER THE INPUT: true; the input reads as it did. -/
def fnPairsSpec : ChangeSpec := { name := "fnPairs", fn := fun _ => fun
  | [d] => { results := [.lit (.bool true)], args := [d] }
  | _ => none }
def fnPairsRow : OpenClaim := { program := "ytgafdhpagifpcaa", sum := "d669a5222f3c673e3126dbf36c2595e1198e21dc028d79f06234584c3b9410ce", func := "loop.example/g00970/laws.FnPairs", spec := "fnPairs", inPlace := ["math/bits.Add64", "math/bits.Sub64"], named := ["math/bits.divideError", "math/bits.overflowError"], apart := false }
def FnPairsSaid : Prop := fnPairsRow.holds Try.pinned (OpenSpec.ofChange fnPairsSpec)

/-- ITS FALSE NEIGHBOUR: 'it returns false'. Refute it at one input. -/
def fnPairsWrong : ChangeSpec := { name := "fnPairs", fn := fun _ => fun
  | [d] => { results := [.lit (.bool false)], args := [d] }
  | _ => none }
def FnPairsWrongFalsely : Prop := fnPairsRow.holds Try.pinned (OpenSpec.ofChange fnPairsWrong)

/-- 'laws.FnTurned': WHATEVER THE INPUT: true; the input reads as it did. -/
def fnTurnedSpec : ChangeSpec := { name := "fnTurned", fn := fun _ => fun
  | [d] => { results := [.lit (.bool true)], args := [d] }
  | _ => none }
def fnTurnedRow : OpenClaim := { program := "ytgafdhpagifpcaa", sum := "d669a5222f3c673e3126dbf36c2595e1198e21dc028d79f06234584c3b9410ce", func := "loop.example/g00970/laws.FnTurned", spec := "fnTurned", inPlace := ["math/bits.Add64", "math/bits.Sub64"], named := ["math/bits.divideError", "math/bits.overflowError"], apart := false }
def FnTurnedSaid : Prop := fnTurnedRow.holds Try.pinned (OpenSpec.ofChange fnTurnedSpec)

/-- ITS FALSE NEIGHBOUR: 'it returns false'. Refute it at one input. -/
def fnTurnedWrong : ChangeSpec := { name := "fnTurned", fn := fun _ => fun
  | [d] => { results := [.lit (.bool false)], args := [d] }
  | _ => none }
def FnTurnedWrongFalsely : Prop := fnTurnedRow.holds Try.pinned (OpenSpec.ofChange fnTurnedWrong)

/-- 'laws.FnCurves': WHATEVER THE INPUT: true; the input reads as it did. -/
def fnCurvesSpec : ChangeSpec := { name := "fnCurves", fn := fun _ => fun
  | [d] => { results := [.lit (.bool true)], args := [d] }
  | _ => none }
def fnCurvesRow : OpenClaim := { program := "ytgafdhpagifpcaa", sum := "d669a5222f3c673e3126dbf36c2595e1198e21dc028d79f06234584c3b9410ce", func := "loop.example/g00970/laws.FnCurves", spec := "fnCurves", inPlace := ["math/bits.Add64", "math/bits.Sub64"], recurses := true, named := ["math/bits.divideError", "math/bits.overflowError"], apart := false }
def FnCurvesSaid : Prop := fnCurvesRow.holds Try.pinned (OpenSpec.ofChange fnCurvesSpec)

/-- ITS FALSE NEIGHBOUR: 'it returns false'. Refute it at one input. -/
def fnCurvesWrong : ChangeSpec := { name := "fnCurves", fn := fun _ => fun
  | [d] => { results := [.lit (.bool false)], args := [d] }
  | _ => none }
def FnCurvesWrongFalsely : Prop := fnCurvesRow.holds Try.pinned (OpenSpec.ofChange fnCurvesWrong)

/-- 'laws.FnPairInverses': WHATEVER THE INPUT: true; the input reads as it did. -/
def fnPairInversesSpec : ChangeSpec := { name := "fnPairInverses", fn := fun _ => fun
  | [d] => { results := [.lit (.bool true)], args := [d] }
  | _ => none }
def fnPairInversesRow : OpenClaim := { program := "ytgafdhpagifpcaa", sum := "d669a5222f3c673e3126dbf36c2595e1198e21dc028d79f06234584c3b9410ce", func := "loop.example/g00970/laws.FnPairInverses", spec := "fnPairInverses", inPlace := ["math/bits.Add64", "math/bits.Sub64"], recurses := true, named := ["math/bits.divideError", "math/bits.overflowError"], apart := false }
def FnPairInversesSaid : Prop := fnPairInversesRow.holds Try.pinned (OpenSpec.ofChange fnPairInversesSpec)

/-- ITS FALSE NEIGHBOUR: 'it returns false'. Refute it at one input. -/
def fnPairInversesWrong : ChangeSpec := { name := "fnPairInverses", fn := fun _ => fun
  | [d] => { results := [.lit (.bool false)], args := [d] }
  | _ => none }
def FnPairInversesWrongFalsely : Prop := fnPairInversesRow.holds Try.pinned (OpenSpec.ofChange fnPairInversesWrong)

/- THE SECOND FORM. 'bulk': how many values and letters a reading holds, each counted each time it is reached (what is shared counts as often as it is met; a slice's spare places count too). A statement '..UptoSaid' is the law's where the arguments, and the package variables that the reading takes, are together of bulk at most 1048576: NARROWER than '..Said'. Prove '..Said' where nothing that the law and all that it calls make is longer than what came in: it says more and counts as full. Else prove '..UptoSaid'. A law counts once. -/
mutual
def uptoBulk {H : Type} : DataW H → Nat
  | .lit (.string bytes) => bytes.length + 1
  | .lit _ => 1
  | .nil => 1
  | .ptr d => uptoBulk d + 1
  | .slice elems spare => uptoBulkAll elems + uptoBulkAll spare + 1
  | .agg parts => uptoBulkAll parts + 1
  | .iface _ d => uptoBulk d + 1
  | .map entries => uptoBulkEntries entries + 1
  | .held _ => 1
def uptoBulkAll {H : Type} : List (DataW H) → Nat
  | [] => 0
  | d :: r => uptoBulk d + uptoBulkAll r
def uptoBulkEntries {H : Type} : List (Lit × DataW H) → Nat
  | [] => 0
  | x :: r => uptoBulkEntry x + uptoBulkEntries r
def uptoBulkEntry {H : Type} : Lit × DataW H → Nat
  | (.string bytes, d) => bytes.length + uptoBulk d + 1
  | (_, d) => uptoBulk d + 1
 end
def uptoSmall : (H : Type) → List (DataW H) → Bool := fun _ ds => decide (uptoBulkAll ds ≤ 1048576)
def OpenSpec.upto (s : _root_.Go.ChangeSpec) : _root_.Go.OpenSpec := { _root_.Go.OpenSpec.ofChange s with cond := some uptoSmall }

/-- 'laws.FnExactAddPair', WHERE WHAT IT READS IS OF BULK AT MOST 1048576: true; the input reads as it did. -/
def fnExactAddPairUptoRow : OpenClaim := { program := "ytgafdhpagifpcaa", sum := "d669a5222f3c673e3126dbf36c2595e1198e21dc028d79f06234584c3b9410ce", func := "loop.example/g00970/laws.FnExactAddPair", spec := "fnExactAddPair", inPlace := ["math/bits.Add64", "math/bits.Sub64"], recurses := true, apart := false, narrowed := true }
def FnExactAddPairUptoSaid : Prop := fnExactAddPairUptoRow.holds Try.pinned (OpenSpec.upto fnExactAddPairSpec)

/-- 'laws.FnExactNegPair', WHERE WHAT IT READS IS OF BULK AT MOST 1048576: true; the input reads as it did. -/
def fnExactNegPairUptoRow : OpenClaim := { program := "ytgafdhpagifpcaa", sum := "d669a5222f3c673e3126dbf36c2595e1198e21dc028d79f06234584c3b9410ce", func := "loop.example/g00970/laws.FnExactNegPair", spec := "fnExactNegPair", inPlace := ["math/bits.Sub64", "math/bits.Add64"], recurses := true, apart := false, narrowed := true }
def FnExactNegPairUptoSaid : Prop := fnExactNegPairUptoRow.holds Try.pinned (OpenSpec.upto fnExactNegPairSpec)

/-- 'laws.FnExactMulPair', WHERE WHAT IT READS IS OF BULK AT MOST 1048576: true; the input reads as it did. -/
def fnExactMulPairUptoRow : OpenClaim := { program := "ytgafdhpagifpcaa", sum := "d669a5222f3c673e3126dbf36c2595e1198e21dc028d79f06234584c3b9410ce", func := "loop.example/g00970/laws.FnExactMulPair", spec := "fnExactMulPair", inPlace := ["math/bits.Add64", "math/bits.Sub64"], recurses := true, named := ["math/bits.divideError", "math/bits.overflowError"], apart := false, narrowed := true }
def FnExactMulPairUptoSaid : Prop := fnExactMulPairUptoRow.holds Try.pinned (OpenSpec.upto fnExactMulPairSpec)

/-- 'laws.FnExactInversePair', WHERE WHAT IT READS IS OF BULK AT MOST 1048576: true; the input reads as it did. -/
def fnExactInversePairUptoRow : OpenClaim := { program := "ytgafdhpagifpcaa", sum := "d669a5222f3c673e3126dbf36c2595e1198e21dc028d79f06234584c3b9410ce", func := "loop.example/g00970/laws.FnExactInversePair", spec := "fnExactInversePair", inPlace := ["math/bits.Add64", "math/bits.Sub64"], recurses := true, named := ["math/bits.divideError", "math/bits.overflowError"], apart := false, narrowed := true }
def FnExactInversePairUptoSaid : Prop := fnExactInversePairUptoRow.holds Try.pinned (OpenSpec.upto fnExactInversePairSpec)

/-- 'laws.FnExactPowPair', WHERE WHAT IT READS IS OF BULK AT MOST 1048576: true; the input reads as it did. -/
def fnExactPowPairUptoRow : OpenClaim := { program := "ytgafdhpagifpcaa", sum := "d669a5222f3c673e3126dbf36c2595e1198e21dc028d79f06234584c3b9410ce", func := "loop.example/g00970/laws.FnExactPowPair", spec := "fnExactPowPair", inPlace := ["math/bits.Add64", "math/bits.Sub64"], recurses := true, named := ["math/bits.divideError", "math/bits.overflowError"], apart := false, narrowed := true }
def FnExactPowPairUptoSaid : Prop := fnExactPowPairUptoRow.holds Try.pinned (OpenSpec.upto fnExactPowPairSpec)

/-- 'laws.FnExactCubeAndPair', WHERE WHAT IT READS IS OF BULK AT MOST 1048576: true; the input reads as it did. -/
def fnExactCubeAndPairUptoRow : OpenClaim := { program := "ytgafdhpagifpcaa", sum := "d669a5222f3c673e3126dbf36c2595e1198e21dc028d79f06234584c3b9410ce", func := "loop.example/g00970/laws.FnExactCubeAndPair", spec := "fnExactCubeAndPair", inPlace := ["math/bits.Add64", "math/bits.Sub64"], recurses := true, named := ["math/bits.divideError", "math/bits.overflowError"], apart := false, narrowed := true }
def FnExactCubeAndPairUptoSaid : Prop := fnExactCubeAndPairUptoRow.holds Try.pinned (OpenSpec.upto fnExactCubeAndPairSpec)

/-- 'laws.FnExactPairSquare', WHERE WHAT IT READS IS OF BULK AT MOST 1048576: true; the input reads as it did. -/
def fnExactPairSquareUptoRow : OpenClaim := { program := "ytgafdhpagifpcaa", sum := "d669a5222f3c673e3126dbf36c2595e1198e21dc028d79f06234584c3b9410ce", func := "loop.example/g00970/laws.FnExactPairSquare", spec := "fnExactPairSquare", inPlace := ["math/bits.Add64", "math/bits.Sub64"], recurses := true, named := ["math/bits.divideError", "math/bits.overflowError"], apart := false, narrowed := true }
def FnExactPairSquareUptoSaid : Prop := fnExactPairSquareUptoRow.holds Try.pinned (OpenSpec.upto fnExactPairSquareSpec)

/-- 'laws.FnPairs', WHERE WHAT IT READS IS OF BULK AT MOST 1048576: true; the input reads as it did. -/
def fnPairsUptoRow : OpenClaim := { program := "ytgafdhpagifpcaa", sum := "d669a5222f3c673e3126dbf36c2595e1198e21dc028d79f06234584c3b9410ce", func := "loop.example/g00970/laws.FnPairs", spec := "fnPairs", inPlace := ["math/bits.Add64", "math/bits.Sub64"], named := ["math/bits.divideError", "math/bits.overflowError"], apart := false, narrowed := true }
def FnPairsUptoSaid : Prop := fnPairsUptoRow.holds Try.pinned (OpenSpec.upto fnPairsSpec)

/-- 'laws.FnTurned', WHERE WHAT IT READS IS OF BULK AT MOST 1048576: true; the input reads as it did. -/
def fnTurnedUptoRow : OpenClaim := { program := "ytgafdhpagifpcaa", sum := "d669a5222f3c673e3126dbf36c2595e1198e21dc028d79f06234584c3b9410ce", func := "loop.example/g00970/laws.FnTurned", spec := "fnTurned", inPlace := ["math/bits.Add64", "math/bits.Sub64"], named := ["math/bits.divideError", "math/bits.overflowError"], apart := false, narrowed := true }
def FnTurnedUptoSaid : Prop := fnTurnedUptoRow.holds Try.pinned (OpenSpec.upto fnTurnedSpec)

/-- 'laws.FnCurves', WHERE WHAT IT READS IS OF BULK AT MOST 1048576: true; the input reads as it did. -/
def fnCurvesUptoRow : OpenClaim := { program := "ytgafdhpagifpcaa", sum := "d669a5222f3c673e3126dbf36c2595e1198e21dc028d79f06234584c3b9410ce", func := "loop.example/g00970/laws.FnCurves", spec := "fnCurves", inPlace := ["math/bits.Add64", "math/bits.Sub64"], recurses := true, named := ["math/bits.divideError", "math/bits.overflowError"], apart := false, narrowed := true }
def FnCurvesUptoSaid : Prop := fnCurvesUptoRow.holds Try.pinned (OpenSpec.upto fnCurvesSpec)

/-- 'laws.FnPairInverses', WHERE WHAT IT READS IS OF BULK AT MOST 1048576: true; the input reads as it did. -/
def fnPairInversesUptoRow : OpenClaim := { program := "ytgafdhpagifpcaa", sum := "d669a5222f3c673e3126dbf36c2595e1198e21dc028d79f06234584c3b9410ce", func := "loop.example/g00970/laws.FnPairInverses", spec := "fnPairInverses", inPlace := ["math/bits.Add64", "math/bits.Sub64"], recurses := true, named := ["math/bits.divideError", "math/bits.overflowError"], apart := false, narrowed := true }
def FnPairInversesUptoSaid : Prop := fnPairInversesUptoRow.holds Try.pinned (OpenSpec.upto fnPairInversesSpec)

end Rows
end Go.Proofs.Ytgafdhpagifpcaa
