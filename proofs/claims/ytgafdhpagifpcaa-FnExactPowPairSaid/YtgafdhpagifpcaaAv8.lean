/-
  OWN WORK. The calculus: guards, whole numbers without overflow, slices told by a list, strings cut.
-/
import Derived.Test.YtgafdhpagifpcaaAv7
namespace Go.Proofs.Ytgafdhpagifpcaa.Av
open Go Go.RowKit
set_option linter.unusedVariables false
set_option linter.unusedSimpArgs false

section
variable {c : Cx} {N : Nat} {H : List (List Dv)} {σ : Sg} {dst : Option Tmp} {ty : TypeId} {pos : String} {after : Array Edge} {gd : Option (Nat × Bool)}
variable {ops : Array Oper} {i : Nat} {l : List Nat} {Q : Sg → List (List Dv) → Prop}

/-! ### 16. Guards -/
theorem AO.split (t : Nat) {b : Bool} (hb : lk σ t = some (.d (.im (.bool b)))) (h1 : b = true → AO c N ops l Q σ H) (h2 : b = false → AO c N ops l Q σ H) : AO c N ops l Q σ H := by
  cases b
  · exact h2 rfl
  · exact h1 rfl
theorem AO.gyes {j : Nat} {want : Bool} {o oj : Oper} {t : Tmp} {b : Bool} (ho : ops[i]? = some o) (hg : o.guard = some (j, want)) (hj : ops[j]? = some oj) (hdj : oj.dst = some t) (htN : dstOk N (some t) = true)
    (hb : lk σ t = some (.d (.im (.bool b)))) (hw : b = want) {r : Sv} (hd : dstOk N o.dst = true) (hx : XS c o H σ r) (h : AO c N ops l Q (put σ o.dst r) H) : AO c N ops (i :: l) Q σ H :=
  AO.guard ho hg hj hdj (by simpa [dstOk] using htN) hb hd (fun _ => hx) (fun _ => h) (fun hn => absurd hw hn)
theorem AO.gno {j : Nat} {want : Bool} {o oj : Oper} {t : Tmp} {b b' : Bool} (ho : ops[i]? = some o) (hg : o.guard = some (j, want)) (hj : ops[j]? = some oj) (hdj : oj.dst = some t) (htN : dstOk N (some t) = true)
    (hb : lk σ t = some (.d (.im (.bool b)))) (hw : b = b') (hne : b' ≠ want) (hd : dstOk N o.dst = true) (h : AO c N ops l Q (put σ o.dst (.d (.tu []))) H) : AO c N ops (i :: l) Q σ H := by
  subst hw
  exact AO.guard (r := .u) ho hg hj hdj (by simpa [dstOk] using htN) hb hd (fun he => absurd he hne) (fun he => absurd he hne) (fun _ => h)

theorem AW.condT {x : Operand} {y z : Code} {b : Bool} {Q : Ax → Sg → List (List Dv) → Prop} (hb : evS σ x = some (.d (.im (.bool b)))) (hw : b = true) (h1 : AW c N y Q σ H) : AW c N (.cond x y z) Q σ H :=
  AW.cond hb (fun _ => h1) (fun h => by rw [hw] at h; cases h)
theorem AW.condF {x : Operand} {y z : Code} {b : Bool} {Q : Ax → Sg → List (List Dv) → Prop} (hb : evS σ x = some (.d (.im (.bool b)))) (hw : b = false) (h1 : AW c N z Q σ H) : AW c N (.cond x y z) Q σ H :=
  AW.cond hb (fun h => by rw [hw] at h; cases h) (fun _ => h1)

theorem XS.pickT {x y z : Operand} {b : Bool} {s1 : Sv} (hx : evS σ x = some (.d (.im (.bool b)))) (hy : evS σ y = some s1) (hw : b = true) : XS c ⟨dst, .pick x y z, ty, pos, after, gd⟩ H σ s1 := by
  subst hw
  refine XS.of_val fun bs a w hW hops => ?_
  have h1 := Rep.im_inv (hops x (by simp [Op.operands]) _ hx)
  have h2 := hops y (by simp [Op.operands]) _ hy
  exact ⟨a.eval y, by simp [execOp, h1, asBool], h2⟩
theorem XS.pickF {x y z : Operand} {b : Bool} {s1 : Sv} (hx : evS σ x = some (.d (.im (.bool b)))) (hz : evS σ z = some s1) (hw : b = false) : XS c ⟨dst, .pick x y z, ty, pos, after, gd⟩ H σ s1 := by
  subst hw
  refine XS.of_val fun bs a w hW hops => ?_
  have h1 := Rep.im_inv (hops x (by simp [Op.operands]) _ hx)
  have h2 := hops z (by simp [Op.operands]) _ hz
  exact ⟨a.eval z, by simp [execOp, h1, asBool], h2⟩
theorem XS.pickB {x y z : Operand} {b b1 b2 : Bool} (hx : evS σ x = some (.d (.im (.bool b)))) (hy : evS σ y = some (.d (.im (.bool b1)))) (hz : evS σ z = some (.d (.im (.bool b2)))) : XS c ⟨dst, .pick x y z, ty, pos, after, gd⟩ H σ (.d (.im (.bool (bif b then b1 else b2)))) := by
  have := XS.pick (c := c) (H := H) (dst := dst) (ty := ty) (pos := pos) (after := after) (gd := gd) hx hy hz
  cases b <;> exact this

/-! ### 17. int without overflow -/
theorem wrap_id {a : Int} (h : -9223372036854775808 ≤ a ∧ a ≤ 9223372036854775807) : IntKind.i64.wrap a = a := by rw [IntKind.wrap_i64]; omega
theorem XS.addI {t u : TypeId} {x y : Operand} {m n : Int} (hx : evS σ x = some (.d (.im (.int .i64 m)))) (hy : evS σ y = some (.d (.im (.int .i64 n)))) (h : -9223372036854775808 ≤ m + n ∧ m + n ≤ 9223372036854775807) :
    XS c ⟨dst, .binOp .add t x y u, ty, pos, after, gd⟩ H σ (.d (.im (.int .i64 (m + n)))) := by
  have := XS.int (c := c) (H := H) (dst := dst) (ty := ty) (pos := pos) (after := after) (gd := gd) (op := .add) (t := t) (u := u) hx hy rfl
  rwa [wrap_id h] at this
theorem XS.subI {t u : TypeId} {x y : Operand} {m n : Int} (hx : evS σ x = some (.d (.im (.int .i64 m)))) (hy : evS σ y = some (.d (.im (.int .i64 n)))) (h : -9223372036854775808 ≤ m - n ∧ m - n ≤ 9223372036854775807) :
    XS c ⟨dst, .binOp .sub t x y u, ty, pos, after, gd⟩ H σ (.d (.im (.int .i64 (m - n)))) := by
  have := XS.int (c := c) (H := H) (dst := dst) (ty := ty) (pos := pos) (after := after) (gd := gd) (op := .sub) (t := t) (u := u) hx hy rfl
  rwa [wrap_id h] at this
theorem XS.mulI {t u : TypeId} {x y : Operand} {m n : Int} (hx : evS σ x = some (.d (.im (.int .i64 m)))) (hy : evS σ y = some (.d (.im (.int .i64 n)))) (h : -9223372036854775808 ≤ m * n ∧ m * n ≤ 9223372036854775807) :
    XS c ⟨dst, .binOp .mul t x y u, ty, pos, after, gd⟩ H σ (.d (.im (.int .i64 (m * n)))) := by
  have := XS.int (c := c) (H := H) (dst := dst) (ty := ty) (pos := pos) (after := after) (gd := gd) (op := .mul) (t := t) (u := u) hx hy rfl
  rwa [wrap_id h] at this
theorem XS.negI {t : TypeId} {x : Operand} {n : Int} (hx : evS σ x = some (.d (.im (.int .i64 n)))) (h : -9223372036854775808 ≤ -n ∧ -n ≤ 9223372036854775807) :
    XS c ⟨dst, .unOp .neg t x, ty, pos, after, gd⟩ H σ (.d (.im (.int .i64 (-n)))) := by
  have := XS.neg (c := c) (H := H) (dst := dst) (ty := ty) (pos := pos) (after := after) (gd := gd) (t := t) hx
  rwa [Int.zero_sub, wrap_id h] at this

/-- What an operation yields, told otherwise. -/
theorem XS.toI {o : Oper} {k : IntKind} {a b : Int} (h : XS c o H σ (.d (.im (.int k a)))) (e : a = b) : XS c o H σ (.d (.im (.int k b))) := e ▸ h
theorem XS.toB {o : Oper} {a b : Bool} (h : XS c o H σ (.d (.im (.bool a)))) (e : a = b) : XS c o H σ (.d (.im (.bool b))) := e ▸ h
theorem XS.toD {o : Oper} {a b : Dv} (h : XS c o H σ (.d a)) (e : a = b) : XS c o H σ (.d b) := e ▸ h
theorem lk_I {t : Nat} {k : IntKind} {a b : Int} (h : lk σ t = some (.d (.im (.int k a)))) (e : a = b) : lk σ t = some (.d (.im (.int k b))) := e ▸ h
theorem lk_D {t : Nat} {a b : Dv} (h : lk σ t = some (.d a)) (e : a = b) : lk σ t = some (.d b) := e ▸ h
theorem lk_S {t : Nat} {a b : Sv} (h : lk σ t = some a) (e : a = b) : lk σ t = some b := e ▸ h

def boolB (P : Program) (t : TypeId) : Bool := match P.underlying t with
  | some .bool => true
  | _ => false
theorem boolB_u {P : Program} {t : TypeId} (h : boolB P t = true) : P.underlying t = some .bool := by
  unfold boolB at h; split at h <;> simp_all
theorem equal_bool {P : Program} {t : TypeId} (h : boolB P t = true) (a b : Bool) (w : World) : (Op.equal t (.bool a) (.bool b)).run P w = .ok (a == b) w := by
  unfold Op.equal
  rw [show Op.maxDepth = 9999 + 1 from rfl, Op.equalIn]
  simp [Sem.run_bind, run_underlying (boolB_u h)]
theorem XS.boolEq {t u : TypeId} {x y : Operand} {m n : Bool} (hx : evS σ x = some (.d (.im (.bool m)))) (hy : evS σ y = some (.d (.im (.bool n)))) (ht : boolB c.P t = true) :
    XS c ⟨dst, .binOp .eql t x y u, ty, pos, after, gd⟩ H σ (.d (.im (.bool (m == n)))) := by
  refine XS.of_val fun bs a w hW hops => ?_
  have h1 := Rep.im_inv (hops x (by simp [Op.operands]) _ hx)
  have h2 := Rep.im_inv (hops y (by simp [Op.operands]) _ hy)
  have hg : (eqGuard .eql t x y (.bool m) (.bool n)).run c.P w = .ok () w := rfl
  exact ⟨_, by simp [execOp, h1, h2, hg, binOp, equal_bool ht], Rep.im rfl⟩
theorem XS.boolNe {t u : TypeId} {x y : Operand} {m n : Bool} (hx : evS σ x = some (.d (.im (.bool m)))) (hy : evS σ y = some (.d (.im (.bool n)))) (ht : boolB c.P t = true) :
    XS c ⟨dst, .binOp .neq t x y u, ty, pos, after, gd⟩ H σ (.d (.im (.bool (m != n)))) := by
  refine XS.of_val fun bs a w hW hops => ?_
  have h1 := Rep.im_inv (hops x (by simp [Op.operands]) _ hx)
  have h2 := Rep.im_inv (hops y (by simp [Op.operands]) _ hy)
  have hg : (eqGuard .neq t x y (.bool m) (.bool n)).run c.P w = .ok () w := rfl
  exact ⟨_, by simp [execOp, h1, h2, hg, binOp, equal_bool ht, bne], Rep.im rfl⟩

/-! ### 18. Slices told by a list -/
theorem XS.indexM {α : Type} {f : α → List Dv} {xs : List α} {t : TypeId} {x y : Operand} {k : IntKind} {j n : Nat} (hx : evS σ x = some (.d (.sl (xs.map f)))) (hy : evS σ y = some (.d (.im (.int k (j : Int))))) (ht : elemB c.P t = some n)
    (hj : j < xs.length) (hl : (f xs[j]).length = n) : XS c ⟨dst, .indexAddr t x y, ty, pos, after, gd⟩ H σ (.e (f xs[j])) :=
  XS.indexSl hx hy ht (by omega) (by simp [hj]) hl
theorem XS.lenM {α : Type} {f : α → List Dv} {xs : List α} {t : TypeId} {x : Operand} {n : Nat} (hx : evS σ x = some (.d (.sl (xs.map f)))) (ht : elemB c.P t = some n) :
    XS c ⟨dst, .call ⟨.builtin .len, #[x], #[t]⟩, ty, pos, after, gd⟩ H σ (.d (.im (.int .i64 (xs.length : Int)))) := by
  have := XS.lenSl (c := c) (H := H) (dst := dst) (ty := ty) (pos := pos) (after := after) (gd := gd) hx ht
  rwa [List.length_map] at this
theorem XS.lenNil {t : TypeId} {x : Operand} {n : Nat} (hx : evS σ x = some (.d (.im (.slice none 0 0)))) (ht : elemB c.P t = some n) :
    XS c ⟨dst, .call ⟨.builtin .len, #[x], #[t]⟩, ty, pos, after, gd⟩ H σ (.d (.im (.int .i64 0))) := by
  refine XS.of_val fun bs a w hW hops => ?_
  have h1 := Rep.im_inv (hops x (by simp [Op.operands, Call.operands]) _ hx)
  obtain ⟨e', hu, hz⟩ := elem_u ht
  exact ⟨_, by simp [execOp, resolve, invoke, builtin, h1, Builtin.len_, run_underlying hu, goInt], Rep.im rfl⟩

/-- An element of a row of one cell each. -/
theorem XS.indexR1 {t : TypeId} {x y : Operand} {k : IntKind} {b j n : Nat} (hx : evS σ x = some (.r b n 1)) (hy : evS σ y = some (.d (.im (.int k (j : Int))))) (ht : elemB c.P t = some 1) (hj : j < n) :
    XS c ⟨dst, .indexAddr t x y, ty, pos, after, gd⟩ H σ (.p b j) := by
  have := XS.indexR (c := c) (H := H) (dst := dst) (ty := ty) (pos := pos) (after := after) (gd := gd) hx hy ht (by omega) (by omega)
  simpa using this

theorem setO_one : ∀ (o : Nat) (d : Dv) (ds : List Dv), o < ds.length → setO o [d] ds = some (ds.set o d)
  | 0, d, c :: cs, h => by cases cs <;> simp [setO]
  | n + 1, d, c :: cs, h => by simp [setO, setO_one n d cs (by simpa using h)]
  | _, _, [], h => by simp at h
theorem AO.store1 {t : TypeId} {p x : Operand} {b o : Nat} {d : Dv} {ds : List Dv} {H' : List (List Dv)} (ho : ops[i]? = some ⟨none, .store t p x, ty, pos, after, none⟩) (hp : evS σ p = some (.p b o)) (hx : evS σ x = some (.d d))
    (hc : clO (wk d) = some [wk d]) (hn : szB c.P t = some 1) (hH : H[b]? = some ds) (hlt : o < ds.length) (hH' : setAt b (ds.set o (wk d)) H = some H') (h : AO c N ops l Q σ H') : AO c N ops (i :: l) Q σ H :=
  AO.store ho hp hx hc hn rfl hH (setO_one o _ ds hlt) hH' h
theorem AO.make1 {t : TypeId} {x y : Operand} {k1 k2 : IntKind} {l' cp : Nat} {bt : Nat} {z : Dv} (ho : ops[i]? = some ⟨dst, .makeSlice t x y, ty, pos, after, none⟩) (hd : dstOk N dst = true)
    (hx : evS σ x = some (.d (.im (.int k1 (l' : Int))))) (hy : evS σ y = some (.d (.im (.int k2 (cp : Int))))) (ht : appB c.P t = some (1, bt, [z])) (h1 : l' ≤ cp) (h2 : bt * cp ≤ 281474976710656) (h3 : cp ≤ 9223372036854775807)
    (h : AO c N ops l Q (put σ dst (.r H.length l' 1)) (H ++ [List.replicate l' z])) : AO c N ops (i :: l) Q σ H := by
  refine AO.make ho hd hx hy ht (by omega) (by omega) ?_ (by omega) ?_
  · have : ((bt * cp : Nat) : Int) ≤ 281474976710656 := by omega
    rwa [Int.natCast_mul] at this
  · have e : (List.replicate (l' : Int).toNat [z]).flatten = List.replicate l' z := by simp
    rw [e]
    exact h

theorem flat_one {α : Type} (g : α → Dv) : ∀ (ns : List α), (ns.map fun a => [g a]).flatten = ns.map g
  | [] => rfl
  | a :: ns => by simp [flat_one g ns]
theorem AO.freeze1 {α : Type} {g : α → Dv} {ns : List α} (t : Nat) {b n : Nat} (ht : lk σ t = some (.r b n 1)) (hb : c.b0.length ≤ b) (hH : H[b]? = some (ns.map g)) (hn : n = ns.length) (h : AO c N ops l Q (.put t (.d (.sl (ns.map fun a => [g a]))) :: .kill b :: σ) H) : AO c N ops l Q σ H :=
  AO.freeze t ht hb hH (by decide) (by simp) (by simp [hn]) (by rw [flat_one, Nat.mul_one, hn]; exact List.take_of_length_le (by simp)) h
theorem AW.freeze1 {α : Type} {g : α → Dv} {ns : List α} (t : Nat) {x : Code} {Q : Ax → Sg → List (List Dv) → Prop} {b n : Nat} (ht : lk σ t = some (.r b n 1)) (hb : c.b0.length ≤ b) (hH : H[b]? = some (ns.map g)) (hn : n = ns.length) (h : AW c N x Q (.put t (.d (.sl (ns.map fun a => [g a]))) :: .kill b :: σ) H) : AW c N x Q σ H :=
  AW.freeze t ht hb hH (by decide) (by simp) (by simp [hn]) (by rw [flat_one, Nat.mul_one, hn]; exact List.take_of_length_le (by simp)) h
theorem AW.setH {x : Code} {Q : Ax → Sg → List (List Dv) → Prop} {H' : List (List Dv)} (e : H = H') (h : AW c N x Q σ H') : AW c N x Q σ H := e ▸ h
theorem AO.setH {H' : List (List Dv)} (e : H = H') (h : AO c N ops l Q σ H') : AO c N ops l Q σ H := e ▸ h
theorem get_map {α β : Type} (f : α → β) (xs : List α) (j : Nat) (h : j < xs.length) : (xs.map f)[j]? = some (f xs[j]) := by simp [h]
end
end Go.Proofs.Ytgafdhpagifpcaa.Av
