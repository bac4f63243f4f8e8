/-
  The law FnExactTermsIn of the given program returns true for all arguments, and leaves them as they were.
  Conditions: none. What is proved is the given row's sentence, for every input. OWN WORK, written by wip/tools/law.py; the walk is in the imported texts.
-/
import Derived.Test.YtnepbbhcbehilaaRows
import Derived.Test.YtnepbbhcbehilaaAvR
import Derived.Test.YtnepbbhcbehilaaC5
namespace Go.Proofs.Ytnepbbhcbehilaa.FnExactTermsInLaw
open Go Go.RowKit Go.ChangeShapes Go.WideShapes Go.ChangeAt Go.Proofs.Ytnepbbhcbehilaa.Av Go.Proofs.Ytnepbbhcbehilaa.C
theorem own : ownKnob Try.prog.godebug = none := by kernel_rfl
theorem laidOut : laidOutB Try.prog = true := by kernel_rfl
theorem pars : parsB Try.prog #[69].toList = some [.ag [.int .i64, .int .i64, .int .i64, .int .i64, .int .i64, .sl [.int .i64], .sl [.sl [.int .i64, .str], .sl [.int .i64, .str], .sl [.int .i64, .str]]]] := by kernel_rfl
theorem reads : #[69].toList.all (fun t => Try.prog.readableRec t && decide (t < Try.prog.types.size)) = true := by kernel_rfl
theorem walk (ds : List Dv) (h : OkPs [.ag [.int .i64, .int .i64, .int .i64, .int .i64, .int .i64, .sl [.int .i64], .sl [.sl [.int .i64, .str], .sl [.int .i64, .str], .sl [.int .i64, .str]]]] ds) : AC Try.prog 8 ds (fun d => d = .im (.bool true)) := by
  obtain ⟨d0, e0, rfl, ⟨c0, rfl, p0⟩, q0⟩ := pars_cons h
  obtain ⟨a0, b0, rfl, r0, s0⟩ := oks_cons p0
  obtain ⟨v0, rfl, h0⟩ := ok_i64 r0
  obtain ⟨a1, b1, rfl, r1, s1⟩ := oks_cons s0
  obtain ⟨v1, rfl, h1⟩ := ok_i64 r1
  obtain ⟨a2, b2, rfl, r2, s2⟩ := oks_cons s1
  obtain ⟨v2, rfl, h2⟩ := ok_i64 r2
  obtain ⟨a3, b3, rfl, r3, s3⟩ := oks_cons s2
  obtain ⟨v3, rfl, h3⟩ := ok_i64 r3
  obtain ⟨a4, b4, rfl, r4, s4⟩ := oks_cons s3
  obtain ⟨v4, rfl, h4⟩ := ok_i64 r4
  obtain ⟨a5, b5, rfl, r5, s5⟩ := oks_cons s4
  obtain ⟨v5, rfl, h5, hz5⟩ := ok_ints r5
  obtain ⟨a6, b6, rfl, r6, s6⟩ := oks_cons s5
  obtain ⟨v6, rfl, h6, hz6⟩ := ok_rows r6
  obtain rfl := oks_nil s6
  obtain rfl := pars_nil q0
  exact fnTermsIn_c (p := ⟨v0, v1, v2, v3, v4, v5, v6⟩) ⟨h5, h6, hz6⟩
set_option maxRecDepth 100000 in
theorem lifted (os : Os) (started : os.Started) (H : Type) (enc : TypeId × Value → H) :
    ReturnsInHanded {} Try.checked os 8 .any (Rows.fnExactTermsInSpec.pre6 enc Try.prog Try.f8 Rows.fnExactTermsInRow.domain false) (Rows.fnExactTermsInSpec.post enc Try.prog Try.f8 false true false false) :=
  law_lift (C := Try.checked) (rt := 4) own started (by kernel_rfl) Try.func8
    (ChangeSpec.witness6 (enc := enc) (C := Try.checked) false ⟨#[], #[.agg #[.int .i64 0, .int .i64 0, .int .i64 0, .int .i64 0, .int .i64 0, .slice none 0 0, .slice none 0 0]], []⟩ 8 (by kernel_rfl) (by kernel_rfl) (by kernel_rfl) (by kernel_rfl))
    Try.params8 (by kernel_rfl) Try.underlying4 rfl laidOut reads pars
    (fun ds hd => by
      match ds, hd with
      | [d0], _ => rfl)
    walk
theorem over : Rows.fnExactTermsInRow.holds Try.pinned (OpenSpec.ofChange Rows.fnExactTermsInSpec) :=
  OpenClaim.holds_of_wide 8 Try.f8 rfl rfl rfl rfl rfl rfl rfl ⟨rfl, rfl, rfl, rfl, rfl⟩ rfl rfl rfl rfl rfl (by kernel_rfl) Try.func8 (by kernel_rfl)
    (of_decide_eq_true (by kernel_rfl)) (by unfold Func.isWrapper; first | (rw [if_pos (by decide +kernel)]; kernel_rfl) | (rw [if_neg (by decide +kernel)]; exact ⟨rfl, rfl⟩))
    (fun os started H enc _ => lifted os started H enc)
theorem proved : Rows.FnExactTermsInSaid := over
#print axioms proved
end Go.Proofs.Ytnepbbhcbehilaa.FnExactTermsInLaw
namespace Go.Proofs.Ytnepbbhcbehilaa
/-- The row, under a short name, for the claim. -/
theorem fnExactTermsIn_holds : Rows.FnExactTermsInSaid := FnExactTermsInLaw.proved
end Go.Proofs.Ytnepbbhcbehilaa
