/-
  The law FnExactPowPair of the given program returns true for all arguments, and leaves them as they were.
  Conditions: none. What is proved is the given row's sentence, for every input. OWN WORK, written by wip/tools/law.py; the walk is in the imported texts.
-/
import Derived.Test.YtgafdhpagifpcaaRows
import Derived.Test.YtgafdhpagifpcaaAvR
import Derived.Test.YtgafdhpagifpcaaC25
namespace Go.Proofs.Ytgafdhpagifpcaa.FnExactPowPairLaw
open Go Go.RowKit Go.ChangeShapes Go.WideShapes Go.ChangeAt Go.Proofs.Ytgafdhpagifpcaa.Av Go.Proofs.Ytgafdhpagifpcaa.C
theorem own : ownKnob Try.prog.godebug = none := by kernel_rfl
theorem laidOut : laidOutB Try.prog = true := by kernel_rfl
theorem pars : parsB Try.prog #[23, 9, 9].toList = some [.ag [.str, .str], .one (.str), .one (.str)] := by kernel_rfl
theorem reads : #[23, 9, 9].toList.all (fun t => Try.prog.readableRec t && decide (t < Try.prog.types.size)) = true := by kernel_rfl
theorem walk (ds : List Dv) (h : OkPs [.ag [.str, .str], .one (.str), .one (.str)] ds) : AC Try.prog 7 ds (fun d => d = .im (.bool true)) := by
  obtain ⟨d0, e0, rfl, ⟨c0, rfl, p0⟩, q0⟩ := pars_cons h
  obtain ⟨a0, b0, rfl, r0, s0⟩ := oks_cons p0
  obtain ⟨v0, rfl, h0⟩ := ok_str r0
  obtain ⟨a1, b1, rfl, r1, s1⟩ := oks_cons s0
  obtain ⟨v1, rfl, h1⟩ := ok_str r1
  obtain rfl := oks_nil s1
  obtain ⟨d1, e1, rfl, p1, q1⟩ := pars_cons q0
  obtain ⟨v2, rfl, h2⟩ := ok_str p1
  obtain ⟨d2, e2, rfl, p2, q2⟩ := pars_cons q1
  obtain ⟨v3, rfl, h3⟩ := ok_str p2
  obtain rfl := pars_nil q2
  exact fnPowPair_c (x := ⟨v0, v1⟩) ⟨h0, h1⟩ h2 h3
set_option maxRecDepth 100000 in
theorem lifted (os : Os) (started : os.Started) (H : Type) (enc : TypeId × Value → H) :
    ReturnsInHanded {} Try.checked os 7 .any (Rows.fnExactPowPairSpec.pre6 enc Try.prog Try.f7 Rows.fnExactPowPairRow.domain false) (Rows.fnExactPowPairSpec.post enc Try.prog Try.f7 false true false false) :=
  law_lift (C := Try.checked) (rt := 4) own started (by kernel_rfl) Try.func7
    (ChangeSpec.witness6 (enc := enc) (C := Try.checked) false ⟨#[], #[.agg #[.string ByteArray.empty, .string ByteArray.empty], .string ByteArray.empty, .string ByteArray.empty], []⟩ 8 (by kernel_rfl) (by kernel_rfl) (by kernel_rfl) (by kernel_rfl))
    Try.params7 (by kernel_rfl) Try.underlying4 rfl laidOut reads pars
    (fun ds hd => by
      match ds, hd with
      | [d0, d1, d2], _ => rfl)
    walk
theorem over : Rows.fnExactPowPairRow.holds Try.pinned (OpenSpec.ofChange Rows.fnExactPowPairSpec) :=
  OpenClaim.holds_of_wide 7 Try.f7 rfl rfl rfl rfl rfl rfl rfl ⟨rfl, rfl, rfl, rfl, rfl⟩ rfl rfl rfl rfl rfl (by kernel_rfl) Try.func7 (by kernel_rfl)
    (of_decide_eq_true (by kernel_rfl)) (by unfold Func.isWrapper; first | (rw [if_pos (by decide +kernel)]; kernel_rfl) | (rw [if_neg (by decide +kernel)]; exact ⟨rfl, rfl⟩))
    (fun os started H enc _ => lifted os started H enc)
theorem proved : Rows.FnExactPowPairSaid := over
#print axioms proved
end Go.Proofs.Ytgafdhpagifpcaa.FnExactPowPairLaw
namespace Go.Proofs.Ytgafdhpagifpcaa
/-- The row, under a short name, for the claim. -/
theorem fnExactPowPair_holds : Rows.FnExactPowPairSaid := FnExactPowPairLaw.proved
end Go.Proofs.Ytgafdhpagifpcaa
