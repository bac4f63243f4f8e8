/-
  OWN WORK. The calculus: equality as a Bool, strings, slices of slices, literals of slices.
-/
import Derived.Test.YtnepbbhcbehilaaAv8
import Derived.Laws.Strings
namespace Go.Proofs.Ytnepbbhcbehilaa.Av
open Go Go.RowKit
set_option linter.unusedVariables false
set_option linter.unusedSimpArgs false

/-- A sentence as a Bool. -/
noncomputable def eqP (p : Prop) : Bool := @decide p (Classical.propDecidable p)
theorem eqP_iff {p : Prop} : eqP p = true ↔ p := by unfold eqP; exact @decide_eq_true_iff p (Classical.propDecidable p)
theorem eqP_false {p : Prop} : eqP p = false ↔ ¬ p := by unfold eqP; exact @decide_eq_false_iff_not p (Classical.propDecidable p)
theorem eqP_yes {p : Prop} (h : p) : eqP p = true := eqP_iff.2 h
theorem eqP_no {p : Prop} (h : ¬ p) : eqP p = false := eqP_false.2 h
theorem eqP_congr {p q : Prop} (h : p ↔ q) : eqP p = eqP q := by rw [propext h]
theorem not_eqP {p : Prop} : (!eqP p) = eqP (¬ p) := by
  by_cases h : p
  · rw [eqP_yes h, eqP_no (fun k => k h)]; rfl
  · rw [eqP_no h, eqP_yes h]; rfl

theorem notT {b : Bool} (h : (!b) = true) : b = false := by simpa using h
theorem notF {b : Bool} (h : (!b) = false) : b = true := by simpa using h
theorem str_eq {x y : ByteArray} : (x.toList == y.toList) = eqP (x = y) := by
  by_cases h : x = y
  · rw [eqP_yes h, h]; simp
  · rw [eqP_no h]
    apply beq_eq_false_iff_ne.2
    intro e
    apply h
    rw [ByteArray.toList_eq, ByteArray.toList_eq] at e
    exact ByteArray.ext (Array.ext' e)

section
variable {c : Cx} {N : Nat} {H : List (List Dv)} {σ : Sg} {dst : Option Tmp} {ty : TypeId} {pos : String} {after : Array Edge} {gd : Option (Nat × Bool)}
variable {ops : Array Oper} {i : Nat} {l : List Nat} {Q : Sg → List (List Dv) → Prop}

theorem XS.strEq {t u : TypeId} {x y : Operand} {m n : ByteArray} (hx : evS σ x = some (.d (.im (.string m)))) (hy : evS σ y = some (.d (.im (.string n)))) :
    XS c ⟨dst, .binOp .eql t x y u, ty, pos, after, gd⟩ H σ (.d (.im (.bool (eqP (m = n))))) := by
  have := XS.str (c := c) (H := H) (dst := dst) (ty := ty) (pos := pos) (after := after) (gd := gd) (op := .eql) (t := t) (u := u) hx hy rfl
  rwa [str_eq] at this
theorem XS.strNe {t u : TypeId} {x y : Operand} {m n : ByteArray} (hx : evS σ x = some (.d (.im (.string m)))) (hy : evS σ y = some (.d (.im (.string n)))) :
    XS c ⟨dst, .binOp .neq t x y u, ty, pos, after, gd⟩ H σ (.d (.im (.bool (eqP (m ≠ n))))) := by
  have := XS.str (c := c) (H := H) (dst := dst) (ty := ty) (pos := pos) (after := after) (gd := gd) (op := .neq) (t := t) (u := u) hx hy rfl
  rwa [str_eq, not_eqP] at this

/-! ### Rows of more than one cell each -/
theorem setO_zero : ∀ (y x rest : List Dv), y.length = x.length → setO 0 y (x ++ rest) = some (y ++ rest)
  | [], [], rest, _ => by cases rest <;> rfl
  | d :: y, e :: x, rest, h => by simp [setO, setO_zero y x rest (by simpa using h)]
  | [], _ :: _, _, h => by simp at h
  | _ :: _, [], _, h => by simp at h
theorem setO_skip : ∀ (x : List Dv) (o : Nat) (y rest r : List Dv), setO o y rest = some r → setO (x.length + o) y (x ++ rest) = some (x ++ r)
  | [], o, y, rest, r, h => by simpa using h
  | e :: x, o, y, rest, r, h => by
    have := setO_skip x o y rest r h
    have e1 : (e :: x).length + o = (x.length + o) + 1 := by simp; omega
    rw [e1]
    simp [setO, this]
theorem setO_flat {sz : Nat} {y : List Dv} (hy : y.length = sz) : ∀ (xs : List (List Dv)) (j : Nat), (∀ x ∈ xs, x.length = sz) → j < xs.length → setO (j * sz) y xs.flatten = some ((xs.set j y).flatten)
  | [], j, _, h => by simp at h
  | x :: xs, 0, h, _ => by
    have := setO_zero y x xs.flatten (by rw [hy, h x List.mem_cons_self])
    simpa using this
  | x :: xs, j + 1, h, hj => by
    have ih := setO_flat hy xs j (fun z hz => h z (List.mem_cons_of_mem _ hz)) (by simpa using hj)
    have := setO_skip x (j * sz) y xs.flatten _ ih
    rw [h x List.mem_cons_self] at this
    have e1 : (j + 1) * sz = sz + j * sz := by rw [Nat.add_mul]; omega
    rw [e1]
    simpa using this
theorem XS.indexRN {t : TypeId} {x y : Operand} {k : IntKind} {b j n sz : Nat} (hx : evS σ x = some (.r b n sz)) (hy : evS σ y = some (.d (.im (.int k (j : Int))))) (ht : elemB c.P t = some sz) (hj : j < n) :
    XS c ⟨dst, .indexAddr t x y, ty, pos, after, gd⟩ H σ (.p b (j * sz)) := by
  have := XS.indexR (c := c) (H := H) (dst := dst) (ty := ty) (pos := pos) (after := after) (gd := gd) hx hy ht (by omega) (by omega)
  simpa using this
theorem AO.storeR {t : TypeId} {p x : Operand} {b j sz : Nat} {d : Dv} {cl : List Dv} {xs : List (List Dv)} {H' : List (List Dv)} (ho : ops[i]? = some ⟨none, .store t p x, ty, pos, after, none⟩) (hp : evS σ p = some (.p b (j * sz))) (hx : evS σ x = some (.d d))
    (hc : clO (wk d) = some cl) (hn : szB c.P t = some sz) (hcl : cl.length = sz) (hH : H[b]? = some xs.flatten) (hall : ∀ x ∈ xs, x.length = sz) (hlt : j < xs.length) (hH' : setAt b ((xs.set j cl).flatten) H = some H') (h : AO c N ops l Q σ H') : AO c N ops (i :: l) Q σ H :=
  AO.store ho hp hx hc hn hcl hH (setO_flat hcl xs j hall hlt) hH' h
theorem AO.makeN {t : TypeId} {x y : Operand} {k1 k2 : IntKind} {l' cp sz : Nat} {bt : Nat} {zs : List Dv} (ho : ops[i]? = some ⟨dst, .makeSlice t x y, ty, pos, after, none⟩) (hd : dstOk N dst = true)
    (hx : evS σ x = some (.d (.im (.int k1 (l' : Int))))) (hy : evS σ y = some (.d (.im (.int k2 (cp : Int))))) (ht : appB c.P t = some (sz, bt, zs)) (h1 : l' ≤ cp) (h2 : bt * cp ≤ 281474976710656) (h3 : cp ≤ 9223372036854775807)
    (h : AO c N ops l Q (put σ dst (.r H.length l' sz)) (H ++ [(List.replicate l' zs).flatten])) : AO c N ops (i :: l) Q σ H := by
  refine AO.make ho hd hx hy ht (by omega) (by omega) ?_ (by omega) h
  have : ((bt * cp : Nat) : Int) ≤ 281474976710656 := by omega
  rwa [Int.natCast_mul] at this
theorem AW.freezeM {α : Type} {f : α → List Dv} {ps : List α} (t : Nat) {x : Code} {Q : Ax → Sg → List (List Dv) → Prop} {b n sz : Nat} (ht : lk σ t = some (.r b n sz)) (hb : c.b0.length ≤ b) (hH : H[b]? = some (ps.map f).flatten) (hsz : 0 < sz) (hl : ∀ a ∈ ps, (f a).length = sz) (hn : n = ps.length)
    (h : AW c N x Q (.put t (.d (.sl (ps.map f))) :: .kill b :: σ) H) : AW c N x Q σ H := by
  have hl' : ∀ y ∈ ps.map f, y.length = sz := fun y hy => by obtain ⟨a, ha, rfl⟩ := List.mem_map.1 hy; exact hl a ha
  have hf := (flatten_at hsz _ hl').1
  refine AW.freeze t ht hb hH hsz hl' (by simp [hn]) ?_ h
  rw [hn]
  exact List.take_of_length_le (by rw [hf]; simp)
def fillR {α : Type} (f : α → List Dv) (z : List Dv) (xs : List α) (i : Nat) : List (List Dv) := (xs.take i).map f ++ List.replicate (xs.length - i) z
theorem fillR_len {α : Type} {f : α → List Dv} {z : List Dv} {xs : List α} {i : Nat} (h : i ≤ xs.length) : (fillR f z xs i).length = xs.length := by simp [fillR]; omega
theorem fillR_zero {α : Type} (f : α → List Dv) (z : List Dv) (xs : List α) : fillR f z xs 0 = List.replicate xs.length z := by simp [fillR]
theorem fillR_all {α : Type} (f : α → List Dv) (z : List Dv) (xs : List α) : fillR f z xs xs.length = xs.map f := by simp [fillR]
theorem fillR_set {α : Type} {f : α → List Dv} {z : List Dv} {xs : List α} {i : Nat} (h : i < xs.length) : (fillR f z xs i).set i (f xs[i]) = fillR f z xs (i + 1) := by
  unfold fillR
  have e : xs.length - i = (xs.length - (i + 1)) + 1 := by omega
  have hl : ((xs.take i).map f).length = i := by simp; omega
  rw [List.set_append_right _ _ (by omega), hl, Nat.sub_self, e, List.replicate_succ, List.set_cons_zero, List.take_succ_eq_append_getElem h, List.map_append, List.append_assoc]
  rfl
theorem fillR_each {α : Type} {f : α → List Dv} {z : List Dv} {xs : List α} {i sz : Nat} (hf : ∀ a, (f a).length = sz) (hz : z.length = sz) : ∀ x ∈ fillR f z xs i, x.length = sz := by
  intro x hx
  simp only [fillR, List.mem_append, List.mem_map, List.mem_replicate] at hx
  rcases hx with ⟨a, _, rfl⟩ | ⟨_, rfl⟩
  · exact hf a
  · exact hz
end
end Go.Proofs.Ytnepbbhcbehilaa.Av
