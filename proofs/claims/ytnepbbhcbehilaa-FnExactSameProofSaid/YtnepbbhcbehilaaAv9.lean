/-
  OWN WORK. The calculus: equality as a Bool, strings, slices of slices, literals of slices.
-/
import Derived.Test.YtnepbbhcbehilaaAv8
import Derived.Laws.Strings
namespace Go.Proofs.Ytnepbbhcbehilaa.Av
open Go Go.RowKit
set_option linter.unusedVariables false
set_option linter.unusedSimpArgs false

/-- A sentence as a Bool. -/
noncomputable def eqP (p : Prop) : Bool := @decide p (Classical.propDecidable p)
theorem eqP_iff {p : Prop} : eqP p = true ↔ p := by unfold eqP; exact @decide_eq_true_iff p (Classical.propDecidable p)
theorem eqP_false {p : Prop} : eqP p = false ↔ ¬ p := by unfold eqP; exact @decide_eq_false_iff_not p (Classical.propDecidable p)
theorem eqP_yes {p : Prop} (h : p) : eqP p = true := eqP_iff.2 h
theorem eqP_no {p : Prop} (h : ¬ p) : eqP p = false := eqP_false.2 h
theorem eqP_congr {p q : Prop} (h : p ↔ q) : eqP p = eqP q := by rw [propext h]
theorem not_eqP {p : Prop} : (!eqP p) = eqP (¬ p) := by
  by_cases h : p
  · rw [eqP_yes h, eqP_no (fun k => k h)]; rfl
  · rw [eqP_no h, eqP_yes h]; rfl

theorem notT {b : Bool} (h : (!b) = true) : b = false := by simpa using h
theorem notF {b : Bool} (h : (!b) = false) : b = true := by simpa using h
theorem str_eq {x y : ByteArray} : (x.toList == y.toList) = eqP (x = y) := by
  by_cases h : x = y
  · rw [eqP_yes h, h]; simp
  · rw [eqP_no h]
    apply beq_eq_false_iff_ne.2
    intro e
    apply h
    rw [ByteArray.toList_eq, ByteArray.toList_eq] at e
    exact ByteArray.ext (Array.ext' e)

section
variable {c : Cx} {N : Nat} {H : List (List Dv)} {σ : Sg} {dst : Option Tmp} {ty : TypeId} {pos : String} {after : Array Edge} {gd : Option (Nat × Bool)}
variable {ops : Array Oper} {i : Nat} {l : List Nat} {Q : Sg → List (List Dv) → Prop}

theorem XS.strEq {t u : TypeId} {x y : Operand} {m n : ByteArray} (hx : evS σ x = some (.d (.im (.string m)))) (hy : evS σ y = some (.d (.im (.string n)))) :
    XS c ⟨dst, .binOp .eql t x y u, ty, pos, after, gd⟩ H σ (.d (.im (.bool (eqP (m = n))))) := by
  have := XS.str (c := c) (H := H) (dst := dst) (ty := ty) (pos := pos) (after := after) (gd := gd) (op := .eql) (t := t) (u := u) hx hy rfl
  rwa [str_eq] at this
theorem XS.strNe {t u : TypeId} {x y : Operand} {m n : ByteArray} (hx : evS σ x = some (.d (.im (.string m)))) (hy : evS σ y = some (.d (.im (.string n)))) :
    XS c ⟨dst, .binOp .neq t x y u, ty, pos, after, gd⟩ H σ (.d (.im (.bool (eqP (m ≠ n))))) := by
  have := XS.str (c := c) (H := H) (dst := dst) (ty := ty) (pos := pos) (after := after) (gd := gd) (op := .neq) (t := t) (u := u) hx hy rfl
  rwa [str_eq, not_eqP] at this
end
end Go.Proofs.Ytnepbbhcbehilaa.Av
