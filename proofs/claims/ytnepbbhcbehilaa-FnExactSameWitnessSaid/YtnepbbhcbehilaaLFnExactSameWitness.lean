/-
  The law FnExactSameWitness holds of the given program for all arguments.
  Conditions: none. What is proved is the given row's sentence, for every input. OWN WORK, written by wip/tools/law.py; the walk is in the imported texts.
-/
import Derived.Test.YtnepbbhcbehilaaRows
import Derived.Test.YtnepbbhcbehilaaAvR
import Derived.Test.YtnepbbhcbehilaaC1
namespace Go.Proofs.Ytnepbbhcbehilaa.FnExactSameWitnessLaw
open Go Go.RowKit Go.ChangeShapes Go.WideShapes Go.ChangeAt Go.Proofs.Ytnepbbhcbehilaa.Av Go.Proofs.Ytnepbbhcbehilaa.C
theorem own : ownKnob Try.prog.godebug = none := by kernel_rfl
theorem laidOut : laidOutB Try.prog = true := by kernel_rfl
theorem pars : parsB Try.prog #[24, 24].toList = some [.ag [.int .i64, .sl [.str]], .ag [.int .i64, .sl [.str]]] := by kernel_rfl
theorem reads : #[24, 24].toList.all (fun t => Try.prog.readableRec t && decide (t < Try.prog.types.size)) = true := by kernel_rfl
theorem walk (ds : List Dv) (h : OkPs [.ag [.int .i64, .sl [.str]], .ag [.int .i64, .sl [.str]]] ds) : AC Try.prog 3 ds (fun d => d = .im (.bool true)) := by
  obtain ⟨d0, e0, rfl, ⟨c0, rfl, k0⟩, h0⟩ := pars_cons h
  obtain ⟨d1, e1, rfl, ⟨c1, rfl, k1⟩, h1⟩ := pars_cons h0
  obtain rfl := pars_nil h1
  obtain ⟨a0, b0, rfl, a1, l0⟩ := oks_cons k0
  obtain ⟨n, rfl, _⟩ := ok_i64 a1
  obtain ⟨a2, b2, rfl, a3, l1⟩ := oks_cons l0
  obtain rfl := oks_nil l1
  obtain ⟨xs, rfl, hx, hxz⟩ := ok_strs a3
  obtain ⟨a4, b4, rfl, a5, l4⟩ := oks_cons k1
  obtain ⟨m, rfl, _⟩ := ok_i64 a5
  obtain ⟨a6, b6, rfl, a7, l6⟩ := oks_cons l4
  obtain rfl := oks_nil l6
  obtain ⟨ys, rfl, hy, hyz⟩ := ok_strs a7
  exact fnSameWitness_c hx hxz hy hyz
set_option maxRecDepth 100000 in
theorem lifted (os : Os) (started : os.Started) (H : Type) (enc : TypeId × Value → H) :
    ReturnsInHanded {} Try.checked os 3 .any (Rows.fnExactSameWitnessSpec.pre6 enc Try.prog Try.f3 Rows.fnExactSameWitnessRow.domain false) (Rows.fnExactSameWitnessSpec.post enc Try.prog Try.f3 false true false false) :=
  law_lift (C := Try.checked) (rt := 4) own started (by kernel_rfl) Try.func3
    (ChangeSpec.witness6 (enc := enc) (C := Try.checked) false ⟨#[], #[.agg #[.int .i64 0, .slice none 0 0], .agg #[.int .i64 0, .slice none 0 0]], []⟩ 8 (by kernel_rfl) (by kernel_rfl) (by kernel_rfl) (by kernel_rfl))
    Try.params3 (by kernel_rfl) Try.underlying4 rfl laidOut reads pars
    (fun ds hd => by
      match ds, hd with
      | [d0, d1], _ => rfl)
    walk
theorem over : Rows.fnExactSameWitnessRow.holds Try.pinned (OpenSpec.ofChange Rows.fnExactSameWitnessSpec) :=
  OpenClaim.holds_of_wide 3 Try.f3 rfl rfl rfl rfl rfl rfl rfl ⟨rfl, rfl, rfl, rfl, rfl⟩ rfl rfl rfl rfl rfl (by kernel_rfl) Try.func3 (by kernel_rfl)
    (of_decide_eq_true (by kernel_rfl)) (by unfold Func.isWrapper; first | (rw [if_pos (by decide +kernel)]; kernel_rfl) | (rw [if_neg (by decide +kernel)]; exact ⟨rfl, rfl⟩))
    (fun os started H enc _ => lifted os started H enc)
theorem proved : Rows.FnExactSameWitnessSaid := over
#print axioms proved
end Go.Proofs.Ytnepbbhcbehilaa.FnExactSameWitnessLaw
namespace Go.Proofs.Ytnepbbhcbehilaa
/-- The row, under a short name, for the claim. -/
theorem fnExactSameWitness_holds : Rows.FnExactSameWitnessSaid := FnExactSameWitnessLaw.proved
end Go.Proofs.Ytnepbbhcbehilaa
