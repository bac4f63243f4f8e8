/-
  The law FnExactSameSystem of the given program returns true for all arguments, and leaves them as they were.
  Conditions: none. What is proved is the given row's sentence, for every input. OWN WORK, written by wip/tools/law.py; the walk is in the imported texts.
-/
import Derived.Test.YtnepbbhcbehilaaRows
import Derived.Test.YtnepbbhcbehilaaAvR
import Derived.Test.YtnepbbhcbehilaaC6
namespace Go.Proofs.Ytnepbbhcbehilaa.FnExactSameSystemLaw
open Go Go.RowKit Go.ChangeShapes Go.WideShapes Go.ChangeAt Go.Proofs.Ytnepbbhcbehilaa.Av Go.Proofs.Ytnepbbhcbehilaa.C
theorem own : ownKnob Try.prog.godebug = none := by kernel_rfl
theorem laidOut : laidOutB Try.prog = true := by kernel_rfl
theorem pars : parsB Try.prog #[69, 69].toList = some [.ag [.int .i64, .int .i64, .int .i64, .int .i64, .int .i64, .sl [.int .i64], .sl [.sl [.int .i64, .str], .sl [.int .i64, .str], .sl [.int .i64, .str]]], .ag [.int .i64, .int .i64, .int .i64, .int .i64, .int .i64, .sl [.int .i64], .sl [.sl [.int .i64, .str], .sl [.int .i64, .str], .sl [.int .i64, .str]]]] := by kernel_rfl
theorem reads : #[69, 69].toList.all (fun t => Try.prog.readableRec t && decide (t < Try.prog.types.size)) = true := by kernel_rfl
theorem walk (ds : List Dv) (h : OkPs [.ag [.int .i64, .int .i64, .int .i64, .int .i64, .int .i64, .sl [.int .i64], .sl [.sl [.int .i64, .str], .sl [.int .i64, .str], .sl [.int .i64, .str]]], .ag [.int .i64, .int .i64, .int .i64, .int .i64, .int .i64, .sl [.int .i64], .sl [.sl [.int .i64, .str], .sl [.int .i64, .str], .sl [.int .i64, .str]]]] ds) : AC Try.prog 10 ds (fun d => d = .im (.bool true)) := by
  obtain ⟨d0, e0, rfl, ⟨c0, rfl, p0⟩, q0⟩ := pars_cons h
  obtain ⟨a0, b0, rfl, r0, s0⟩ := oks_cons p0
  obtain ⟨v0, rfl, h0⟩ := ok_i64 r0
  obtain ⟨a1, b1, rfl, r1, s1⟩ := oks_cons s0
  obtain ⟨v1, rfl, h1⟩ := ok_i64 r1
  obtain ⟨a2, b2, rfl, r2, s2⟩ := oks_cons s1
  obtain ⟨v2, rfl, h2⟩ := ok_i64 r2
  obtain ⟨a3, b3, rfl, r3, s3⟩ := oks_cons s2
  obtain ⟨v3, rfl, h3⟩ := ok_i64 r3
  obtain ⟨a4, b4, rfl, r4, s4⟩ := oks_cons s3
  obtain ⟨v4, rfl, h4⟩ := ok_i64 r4
  obtain ⟨a5, b5, rfl, r5, s5⟩ := oks_cons s4
  obtain ⟨v5, rfl, h5, hz5⟩ := ok_ints r5
  obtain ⟨a6, b6, rfl, r6, s6⟩ := oks_cons s5
  obtain ⟨v6, rfl, h6, hz6⟩ := ok_rows r6
  obtain rfl := oks_nil s6
  obtain ⟨d1, e1, rfl, ⟨c1, rfl, p1⟩, q1⟩ := pars_cons q0
  obtain ⟨a7, b7, rfl, r7, s7⟩ := oks_cons p1
  obtain ⟨v7, rfl, h7⟩ := ok_i64 r7
  obtain ⟨a8, b8, rfl, r8, s8⟩ := oks_cons s7
  obtain ⟨v8, rfl, h8⟩ := ok_i64 r8
  obtain ⟨a9, b9, rfl, r9, s9⟩ := oks_cons s8
  obtain ⟨v9, rfl, h9⟩ := ok_i64 r9
  obtain ⟨a10, b10, rfl, r10, s10⟩ := oks_cons s9
  obtain ⟨v10, rfl, h10⟩ := ok_i64 r10
  obtain ⟨a11, b11, rfl, r11, s11⟩ := oks_cons s10
  obtain ⟨v11, rfl, h11⟩ := ok_i64 r11
  obtain ⟨a12, b12, rfl, r12, s12⟩ := oks_cons s11
  obtain ⟨v12, rfl, h12, hz12⟩ := ok_ints r12
  obtain ⟨a13, b13, rfl, r13, s13⟩ := oks_cons s12
  obtain ⟨v13, rfl, h13, hz13⟩ := ok_rows r13
  obtain rfl := oks_nil s13
  obtain rfl := pars_nil q1
  exact fnSameSystem_c (p := ⟨v0, v1, v2, v3, v4, v5, v6⟩) (q := ⟨v7, v8, v9, v10, v11, v12, v13⟩) ⟨h5, h6, hz6⟩ ⟨h12, h13, hz13⟩
set_option maxRecDepth 100000 in
theorem lifted (os : Os) (started : os.Started) (H : Type) (enc : TypeId × Value → H) :
    ReturnsInHanded {} Try.checked os 10 .any (Rows.fnExactSameSystemSpec.pre6 enc Try.prog Try.f10 Rows.fnExactSameSystemRow.domain false) (Rows.fnExactSameSystemSpec.post enc Try.prog Try.f10 false true false false) :=
  law_lift (C := Try.checked) (rt := 4) own started (by kernel_rfl) Try.func10
    (ChangeSpec.witness6 (enc := enc) (C := Try.checked) false ⟨#[], #[.agg #[.int .i64 0, .int .i64 0, .int .i64 0, .int .i64 0, .int .i64 0, .slice none 0 0, .slice none 0 0], .agg #[.int .i64 0, .int .i64 0, .int .i64 0, .int .i64 0, .int .i64 0, .slice none 0 0, .slice none 0 0]], []⟩ 8 (by kernel_rfl) (by kernel_rfl) (by kernel_rfl) (by kernel_rfl))
    Try.params10 (by kernel_rfl) Try.underlying4 rfl laidOut reads pars
    (fun ds hd => by
      match ds, hd with
      | [d0, d1], _ => rfl)
    walk
theorem over : Rows.fnExactSameSystemRow.holds Try.pinned (OpenSpec.ofChange Rows.fnExactSameSystemSpec) :=
  OpenClaim.holds_of_wide 10 Try.f10 rfl rfl rfl rfl rfl rfl rfl ⟨rfl, rfl, rfl, rfl, rfl⟩ rfl rfl rfl rfl rfl (by kernel_rfl) Try.func10 (by kernel_rfl)
    (of_decide_eq_true (by kernel_rfl)) (by unfold Func.isWrapper; first | (rw [if_pos (by decide +kernel)]; kernel_rfl) | (rw [if_neg (by decide +kernel)]; exact ⟨rfl, rfl⟩))
    (fun os started H enc _ => lifted os started H enc)
theorem proved : Rows.FnExactSameSystemSaid := over
#print axioms proved
end Go.Proofs.Ytnepbbhcbehilaa.FnExactSameSystemLaw
namespace Go.Proofs.Ytnepbbhcbehilaa
/-- The row, under a short name, for the claim. -/
theorem fnExactSameSystem_holds : Rows.FnExactSameSystemSaid := FnExactSameSystemLaw.proved
end Go.Proofs.Ytnepbbhcbehilaa
