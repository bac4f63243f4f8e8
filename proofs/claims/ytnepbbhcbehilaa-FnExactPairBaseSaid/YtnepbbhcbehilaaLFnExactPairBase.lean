/-
  The law FnExactPairBase of the given program returns true for all arguments, and leaves them as they were.
  Conditions: none. What is proved is the given row's sentence, for every input. OWN WORK, written by wip/tools/law.py; the walk is in the imported texts.
-/
import Derived.Test.YtnepbbhcbehilaaRows
import Derived.Test.YtnepbbhcbehilaaAvR
import Derived.Test.YtnepbbhcbehilaaC16
namespace Go.Proofs.Ytnepbbhcbehilaa.FnExactPairBaseLaw
open Go Go.RowKit Go.ChangeShapes Go.WideShapes Go.ChangeAt Go.Proofs.Ytnepbbhcbehilaa.Av Go.Proofs.Ytnepbbhcbehilaa.C
theorem own : ownKnob Try.prog.godebug = none := by kernel_rfl
theorem laidOut : laidOutB Try.prog = true := by kernel_rfl
theorem pars : parsB Try.prog #[3].toList = some [.one (.int .i64)] := by kernel_rfl
theorem reads : #[3].toList.all (fun t => Try.prog.readableRec t && decide (t < Try.prog.types.size)) = true := by kernel_rfl
theorem walk (ds : List Dv) (h : OkPs [.one (.int .i64)] ds) : AC Try.prog 5 ds (fun d => d = .im (.bool true)) := by
  obtain ⟨d0, e0, rfl, p0, q0⟩ := pars_cons h
  obtain ⟨v0, rfl, h0⟩ := ok_i64 p0
  obtain rfl := pars_nil q0
  exact fnPairBase_c (id := v0)
set_option maxRecDepth 100000 in
theorem lifted (os : Os) (started : os.Started) (H : Type) (enc : TypeId × Value → H) :
    ReturnsInHanded {} Try.checked os 5 .any (Rows.fnExactPairBaseSpec.pre6 enc Try.prog Try.f5 Rows.fnExactPairBaseRow.domain false) (Rows.fnExactPairBaseSpec.post enc Try.prog Try.f5 false true false false) :=
  law_lift (C := Try.checked) (rt := 4) own started (by kernel_rfl) Try.func5
    (ChangeSpec.witness6 (enc := enc) (C := Try.checked) false ⟨#[], #[.int .i64 0], []⟩ 8 (by kernel_rfl) (by kernel_rfl) (by kernel_rfl) (by kernel_rfl))
    Try.params5 (by kernel_rfl) Try.underlying4 rfl laidOut reads pars
    (fun ds hd => by
      match ds, hd with
      | [d0], _ => rfl)
    walk
theorem over : Rows.fnExactPairBaseRow.holds Try.pinned (OpenSpec.ofChange Rows.fnExactPairBaseSpec) :=
  OpenClaim.holds_of_wide 5 Try.f5 rfl rfl rfl rfl rfl rfl rfl ⟨rfl, rfl, rfl, rfl, rfl⟩ rfl rfl rfl rfl rfl (by kernel_rfl) Try.func5 (by kernel_rfl)
    (of_decide_eq_true (by kernel_rfl)) (by unfold Func.isWrapper; first | (rw [if_pos (by decide +kernel)]; kernel_rfl) | (rw [if_neg (by decide +kernel)]; exact ⟨rfl, rfl⟩))
    (fun os started H enc _ => lifted os started H enc)
theorem proved : Rows.FnExactPairBaseSaid := over
#print axioms proved
end Go.Proofs.Ytnepbbhcbehilaa.FnExactPairBaseLaw
namespace Go.Proofs.Ytnepbbhcbehilaa
/-- The row, under a short name, for the claim. -/
theorem fnExactPairBase_holds : Rows.FnExactPairBaseSaid := FnExactPairBaseLaw.proved
end Go.Proofs.Ytnepbbhcbehilaa
