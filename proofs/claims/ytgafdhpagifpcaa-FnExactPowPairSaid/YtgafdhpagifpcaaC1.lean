/-
  OWN WORK, printed by wip/tools/gen.py out of the translation and of the contracts in wip/specs.
-/
import Derived.Test.YtgafdhpagifpcaaTy
import Derived.Test.YtgafdhpagifpcaaProg
namespace Go.Proofs.Ytgafdhpagifpcaa.C
open Go Go.RowKit Go.Proofs.Ytgafdhpagifpcaa.Av Go.Proofs.Ytgafdhpagifpcaa.Ty Go.Proofs.Ytgafdhpagifpcaa.Num
set_option linter.unusedVariables false


def strD (s : ByteArray) : Dv := .im (.string s)
def strsD (ss : List ByteArray) : Dv := .sl (ss.map fun s => [strD s])
def intD (n : Int) : Dv := .im (.int .i64 n)
def boolD (b : Bool) : Dv := .im (.bool b)

def fillTo {α : Type} (f : α → Dv) (z : Dv) (xs : List α) (i : Nat) : List Dv := (xs.take i).map f ++ List.replicate (xs.length - i) z
theorem fill_len {α : Type} {f : α → Dv} {z : Dv} {xs : List α} {i : Nat} (h : i ≤ xs.length) : (fillTo f z xs i).length = xs.length := by
  simp [fillTo]; omega
theorem fill_zero {α : Type} (f : α → Dv) (z : Dv) (xs : List α) : fillTo f z xs 0 = List.replicate xs.length z := by simp [fillTo]
theorem fill_all {α : Type} (f : α → Dv) (z : Dv) (xs : List α) : fillTo f z xs xs.length = xs.map f := by simp [fillTo]
theorem fill_set {α : Type} {f : α → Dv} {z : Dv} {xs : List α} {i : Nat} (h : i < xs.length) : (fillTo f z xs i).set i (f xs[i]) = fillTo f z xs (i + 1) := by
  unfold fillTo
  have e : xs.length - i = (xs.length - (i + 1)) + 1 := by omega
  have hl : ((xs.take i).map f).length = i := by simp; omega
  rw [List.set_append_right _ _ (by omega), hl, Nat.sub_self, e, List.replicate_succ, List.set_cons_zero, List.take_succ_eq_append_getElem h, List.map_append, List.append_assoc]
  rfl
def szs (ss : List ByteArray) : Nat := (ss.map (·.size)).sum
theorem szs_succ {ss : List ByteArray} {i : Nat} (h : i < ss.length) : szs (ss.take (i + 1)) = szs (ss.take i) + ss[i].size := by
  unfold szs
  rw [List.take_succ_eq_append_getElem h, List.map_append, List.sum_append]
  simp
theorem szs_le (ss : List ByteArray) (i : Nat) : szs (ss.take i) ≤ szs ss := by
  conv => rhs; rw [← List.take_append_drop i ss]
  unfold szs
  rw [List.map_append, List.sum_append]
  omega
/-- What a slice of strings costs. -/
def costS (ss : List ByteArray) : Nat := ss.length + szs ss
def left (l : Int) (n : Nat) : Int := if l < n then -1 else l - n


theorem left_neg {l : Int} {n : Nat} (h : left l n < 0) : left l n = -1 := by unfold left at *; split <;> omega
theorem left_ge {l : Int} {n : Nat} (h : ¬ left l n < 0) : (n : Int) ≤ l ∧ left l n = l - n := by unfold left at *; split at h <;> split <;> omega

end Go.Proofs.Ytgafdhpagifpcaa.C
