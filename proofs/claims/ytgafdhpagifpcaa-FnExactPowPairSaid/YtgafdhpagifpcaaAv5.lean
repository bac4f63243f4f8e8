/-
  OWN WORK. The calculus: the operations that yield a value.
-/
import Derived.Test.YtgafdhpagifpcaaAv4
import Derived.Laws.Tables
import Derived.Laws.Slices
namespace Go.Proofs.Ytgafdhpagifpcaa.Av
open Go Go.RowKit
set_option linter.unusedVariables false
set_option linter.unusedSimpArgs false

def intOp (op : BinOp) (k : IntKind) (a b : Int) : Option Value := match op with
  | .add => some (.int k (k.wrap (a + b)))
  | .sub => some (.int k (k.wrap (a - b)))
  | .mul => some (.int k (k.wrap (a * b)))
  | .and => some (.int k (k.wrap (BitVec.ofInt k.bits a &&& BitVec.ofInt k.bits b).toNat))
  | .or => some (.int k (k.wrap (BitVec.ofInt k.bits a ||| BitVec.ofInt k.bits b).toNat))
  | .xor => some (.int k (k.wrap (BitVec.ofInt k.bits a ^^^ BitVec.ofInt k.bits b).toNat))
  | .andNot => some (.int k (k.wrap (BitVec.ofInt k.bits a &&& ~~~BitVec.ofInt k.bits b).toNat))
  | .eql => some (.bool (a == b))
  | .neq => some (.bool (a != b))
  | .lss => some (.bool (decide (a < b)))
  | .leq => some (.bool (decide (a ≤ b)))
  | .gtr => some (.bool (decide (a > b)))
  | .geq => some (.bool (decide (a ≥ b)))
  | _ => none
def strOp (op : BinOp) (x y : ByteArray) : Option Value := match op with
  | .eql => some (.bool (x.toList == y.toList))
  | .neq => some (.bool (!(x.toList == y.toList)))
  | _ => none

section
variable {c : Cx} {H : List (List Dv)} {σ : Sg} {dst : Option Tmp} {ty : TypeId} {pos : String} {after : Array Edge} {gd : Option (Nat × Bool)}

theorem XS.move {x : Operand} {s : Sv} (hx : evS σ x = some s) : XS c ⟨dst, .move x, ty, pos, after, gd⟩ H σ s :=
  XS.of_val fun bs a w hW hops => ⟨a.eval x, rfl, hops x (by simp [Op.operands]) s hx⟩
theorem XS.assign {x : Operand} {s : Sv} (hx : evS σ x = some s) : XS c ⟨dst, .assign x, ty, pos, after, gd⟩ H σ s :=
  XS.of_val fun bs a w hW hops => ⟨a.eval x, rfl, hops x (by simp [Op.operands]) s hx⟩

theorem XS.pick {x y z : Operand} {b : Bool} {s1 s2 : Sv} (hx : evS σ x = some (.d (.im (.bool b)))) (hy : evS σ y = some s1) (hz : evS σ z = some s2) :
    XS c ⟨dst, .pick x y z, ty, pos, after, gd⟩ H σ (if b = true then s1 else s2) := by
  refine XS.of_val fun bs a w hW hops => ?_
  have h1 := Rep.im_inv (hops x (by simp [Op.operands]) _ hx)
  have h2 := hops y (by simp [Op.operands]) _ hy
  have h3 := hops z (by simp [Op.operands]) _ hz
  cases b
  · exact ⟨a.eval z, by simp [execOp, h1, asBool], h3⟩
  · exact ⟨a.eval y, by simp [execOp, h1, asBool], h2⟩

theorem XS.int {op : BinOp} {t u : TypeId} {x y : Operand} {k : IntKind} {m n : Int} {v : Value} (hx : evS σ x = some (.d (.im (.int k m)))) (hy : evS σ y = some (.d (.im (.int k n)))) (hv : intOp op k m n = some v) :
    XS c ⟨dst, .binOp op t x y u, ty, pos, after, gd⟩ H σ (.d (.im v)) := by
  refine XS.of_val fun bs a w hW hops => ?_
  have h1 := Rep.im_inv (hops x (by simp [Op.operands]) _ hx)
  have h2 := Rep.im_inv (hops y (by simp [Op.operands]) _ hy)
  have hg : (eqGuard op t x y (.int k m) (.int k n)).run c.P w = .ok () w := by cases op <;> rfl
  cases op <;> simp only [intOp, Option.some.injEq, reduceCtorEq] at hv <;> subst hv <;>
    exact ⟨_, by simp [execOp, h1, h2, hg, binOp, Op.intArith, Op.intBits, Op.intCmp], Rep.im rfl⟩

theorem XS.quo {t u : TypeId} {x y : Operand} {k : IntKind} {m n : Int} (hx : evS σ x = some (.d (.im (.int k m)))) (hy : evS σ y = some (.d (.im (.int k n)))) (hn : n ≠ 0) :
    XS c ⟨dst, .binOp .quo t x y u, ty, pos, after, gd⟩ H σ (.d (.im (.int k (k.wrap (m.tdiv n))))) := by
  refine XS.of_val fun bs a w hW hops => ?_
  have h1 := Rep.im_inv (hops x (by simp [Op.operands]) _ hx)
  have h2 := Rep.im_inv (hops y (by simp [Op.operands]) _ hy)
  have hg : (eqGuard .quo t x y (.int k m) (.int k n)).run c.P w = .ok () w := rfl
  exact ⟨_, by simp [execOp, h1, h2, hg, binOp, Op.intDiv, hn], Rep.im rfl⟩
theorem XS.rem {t u : TypeId} {x y : Operand} {k : IntKind} {m n : Int} (hx : evS σ x = some (.d (.im (.int k m)))) (hy : evS σ y = some (.d (.im (.int k n)))) (hn : n ≠ 0) :
    XS c ⟨dst, .binOp .rem t x y u, ty, pos, after, gd⟩ H σ (.d (.im (.int k (m.tmod n)))) := by
  refine XS.of_val fun bs a w hW hops => ?_
  have h1 := Rep.im_inv (hops x (by simp [Op.operands]) _ hx)
  have h2 := Rep.im_inv (hops y (by simp [Op.operands]) _ hy)
  have hg : (eqGuard .rem t x y (.int k m) (.int k n)).run c.P w = .ok () w := rfl
  exact ⟨_, by simp [execOp, h1, h2, hg, binOp, Op.intDiv, hn], Rep.im rfl⟩
theorem XS.shl {t u : TypeId} {x y : Operand} {k k' : IntKind} {m n : Int} (hx : evS σ x = some (.d (.im (.int k m)))) (hy : evS σ y = some (.d (.im (.int k' n)))) (hn : 0 ≤ n) :
    XS c ⟨dst, .binOp .shl t x y u, ty, pos, after, gd⟩ H σ (.d (.im (.int k (k.wrap (m * 2 ^ (min n.toNat k.bits)))))) := by
  refine XS.of_val fun bs a w hW hops => ?_
  have h1 := Rep.im_inv (hops x (by simp [Op.operands]) _ hx)
  have h2 := Rep.im_inv (hops y (by simp [Op.operands]) _ hy)
  have hg : (eqGuard .shl t x y (.int k m) (.int k' n)).run c.P w = .ok () w := rfl
  exact ⟨_, by simp [execOp, h1, h2, hg, binOp, Op.shift, Int.not_lt.2 hn], Rep.im rfl⟩
theorem XS.shr {t u : TypeId} {x y : Operand} {k k' : IntKind} {m n : Int} (hx : evS σ x = some (.d (.im (.int k m)))) (hy : evS σ y = some (.d (.im (.int k' n)))) (hn : 0 ≤ n) :
    XS c ⟨dst, .binOp .shr t x y u, ty, pos, after, gd⟩ H σ (.d (.im (.int k (m.fdiv (2 ^ (min n.toNat k.bits)))))) := by
  refine XS.of_val fun bs a w hW hops => ?_
  have h1 := Rep.im_inv (hops x (by simp [Op.operands]) _ hx)
  have h2 := Rep.im_inv (hops y (by simp [Op.operands]) _ hy)
  have hg : (eqGuard .shr t x y (.int k m) (.int k' n)).run c.P w = .ok () w := rfl
  exact ⟨_, by simp [execOp, h1, h2, hg, binOp, Op.shift, Int.not_lt.2 hn], Rep.im rfl⟩

theorem XS.str {op : BinOp} {t u : TypeId} {x y : Operand} {m n : ByteArray} {v : Value} (hx : evS σ x = some (.d (.im (.string m)))) (hy : evS σ y = some (.d (.im (.string n)))) (hv : strOp op m n = some v) :
    XS c ⟨dst, .binOp op t x y u, ty, pos, after, gd⟩ H σ (.d (.im v)) := by
  refine XS.of_val fun bs a w hW hops => ?_
  have h1 := Rep.im_inv (hops x (by simp [Op.operands]) _ hx)
  have h2 := Rep.im_inv (hops y (by simp [Op.operands]) _ hy)
  have hg : (eqGuard op t x y (.string m) (.string n)).run c.P w = .ok () w := by cases op <;> rfl
  cases op <;> simp only [strOp, Option.some.injEq, reduceCtorEq] at hv <;> subst hv <;>
    exact ⟨_, by simp [execOp, h1, h2, hg, binOp, Op.stringOp], Rep.im rfl⟩
theorem XS.cat {t u : TypeId} {x y : Operand} {m n : ByteArray} (hx : evS σ x = some (.d (.im (.string m)))) (hy : evS σ y = some (.d (.im (.string n)))) (hs : m.size + n.size ≤ 9223372036854775807) :
    XS c ⟨dst, .binOp .add t x y u, ty, pos, after, gd⟩ H σ (.d (.im (.string (m ++ n)))) := by
  refine XS.of_val fun bs a w hW hops => ?_
  have h1 := Rep.im_inv (hops x (by simp [Op.operands]) _ hx)
  have h2 := Rep.im_inv (hops y (by simp [Op.operands]) _ hy)
  have hg : (eqGuard .add t x y (.string m) (.string n)).run c.P w = .ok () w := rfl
  have hb : ¬ ((m.size + n.size : Nat) : Int) > IntKind.i64.max := by
    have : IntKind.i64.max = 9223372036854775807 := by decide
    rw [this]; omega
  exact ⟨_, by
    simp only [execOp, h1, h2, Sem.run_bind, hg, Result.andThen_ok, binOp, Op.stringOp]
    rw [if_neg hb]; rfl, Rep.im rfl⟩

theorem XS.not {t : TypeId} {x : Operand} {b : Bool} (hx : evS σ x = some (.d (.im (.bool b)))) : XS c ⟨dst, .unOp .not t x, ty, pos, after, gd⟩ H σ (.d (.im (.bool (!b)))) := by
  refine XS.of_val fun bs a w hW hops => ?_
  have h1 := Rep.im_inv (hops x (by simp [Op.operands]) _ hx)
  exact ⟨_, by simp [execOp, h1, Op.unary], Rep.im rfl⟩
theorem XS.neg {t : TypeId} {x : Operand} {k : IntKind} {n : Int} (hx : evS σ x = some (.d (.im (.int k n)))) : XS c ⟨dst, .unOp .neg t x, ty, pos, after, gd⟩ H σ (.d (.im (.int k (k.wrap (0 - n))))) := by
  refine XS.of_val fun bs a w hW hops => ?_
  have h1 := Rep.im_inv (hops x (by simp [Op.operands]) _ hx)
  exact ⟨_, by simp [execOp, h1, Op.unary, Op.intArith], Rep.im rfl⟩

def intK (P : Program) (t : TypeId) : Option IntKind := match P.underlying t with
  | some (.int k) => some k
  | _ => none
theorem XS.conv {s t : TypeId} {x : Operand} {k k' : IntKind} {n : Int} (hx : evS σ x = some (.d (.im (.int k n)))) (hs : (c.P.underlying s).isSome = true) (ht : intK c.P t = some k') :
    XS c ⟨dst, .convert s t x, ty, pos, after, gd⟩ H σ (.d (.im (.int k' (k'.wrap n)))) := by
  refine XS.of_val fun bs a w hW hops => ?_
  have h1 := Rep.im_inv (hops x (by simp [Op.operands]) _ hx)
  have hu : c.P.underlying t = some (.int k') := by
    unfold intK at ht; split at ht <;> simp_all
  obtain ⟨d, hd⟩ := Option.isSome_iff_exists.1 hs
  exact ⟨_, by simp [execOp, h1, convert, run_underlying hd, run_underlying hu, Conv.intToInt], Rep.im rfl⟩

def strB (P : Program) (t : TypeId) : Bool := match P.underlying t with
  | some .string => true
  | _ => false
theorem strB_u {P : Program} {t : TypeId} (h : strB P t = true) : P.underlying t = some .string := by
  unfold strB at h; split at h <;> simp_all
/-- The byte i of s. -/
def btAt (s : ByteArray) (i : Int) : Int := (s.data.getD i.toNat 0).toNat
theorem XS.index {t : TypeId} {x y : Operand} {k : IntKind} {i : Int} {s : ByteArray} (hx : evS σ x = some (.d (.im (.string s)))) (hy : evS σ y = some (.d (.im (.int k i)))) (ht : strB c.P t = true) (h0 : 0 ≤ i) (h1 : i < s.size) :
    XS c ⟨dst, .index t x y, ty, pos, after, gd⟩ H σ (.d (.im (.int .u8 (btAt s i)))) := by
  refine XS.of_val fun bs a w hW hops => ?_
  have e1 := Rep.im_inv (hops x (by simp [Op.operands]) _ hx)
  have e2 := Rep.im_inv (hops y (by simp [Op.operands]) _ hy)
  have hlt : i.toNat < s.size := by omega
  have hs : s[i.toNat]? = some s[i.toNat] := getElem?_pos s i.toNat hlt
  have hd : s.data.getD i.toNat 0 = s[i.toNat] := by
    rw [Array.getD_eq_getD_getElem?, Array.getElem?_eq_getElem hlt]; rfl
  refine ⟨.int .u8 (btAt s i), ?_, Rep.im rfl⟩
  simp [execOp, e1, e2, Instr.index, asIntOf, run_underlying (strB_u ht), h0, hs, btAt, hd]

theorem XS.extract {x : Operand} {i : Nat} {ds : List Dv} {d : Dv} (hx : evS σ x = some (.d (.tu ds))) (hd : ds[i]? = some d) : XS c ⟨dst, .extract x i, ty, pos, after, gd⟩ H σ (.d d) := by
  refine XS.of_val fun bs a w hW hops => ?_
  have h1 := hops x (by simp [Op.operands]) _ hx
  cases hv : a.eval x with
  | tuple vs =>
    rw [hv] at h1
    generalize hq : Dv.tu ds = q at h1
    cases h1 <;> cases hq
    rename_i vs hl hr
    have hlt : i < vs.length := by have := (List.getElem?_eq_some_iff.1 hd).1; omega
    have hvi : vs[i]? = some vs[i] := List.getElem?_eq_getElem hlt
    exact ⟨vs[i], by simp [execOp, hv, Instr.extract, hvi], hr i d _ hd hvi⟩
  | _ => rw [hv] at h1; generalize hq : Dv.tu ds = q at h1; cases h1 <;> cases hq

/-! #### memory that is read -/
theorem sv_p {T : Nat → Prop} {bs : List (Option Nat)} {w : World} {b o : Nat} {v : Value} (h : SRep T bs w (.p b o) v) : ∃ g, bs[b]? = some (some g) ∧ v = .pointer (some ⟨g, o, none⟩) := h

theorem XS.load {t : TypeId} {x : Operand} {b o : Nat} {ds : List Dv} {d : Dv} (hx : evS σ x = some (.p b o)) (ht : oneB c.P t = true) (hH : H[b]? = some ds) (hd : ds[o]? = some d) : XS c ⟨dst, .load t x, ty, pos, after, gd⟩ H σ (.d d) := by
  refine XS.of_val fun bs a w hW hops => ?_
  obtain ⟨g, hb, hv⟩ := sv_p (hops x (by simp [Op.operands]) _ hx)
  obtain ⟨v, hc, hr, _⟩ := box_cell hW hb hH hd
  exact ⟨v, by simp [execOp, hv, Instr.loadAt, Instr.sureAddr, load_one ht hc], hr⟩
theorem XS.loadA {t : TypeId} {x : Operand} {b o n : Nat} {ds : List Dv} (hx : evS σ x = some (.p b o)) (ht : rowB c.P t = true) (hn : szB c.P t = some n) (hH : H[b]? = some ds) (hd : o + n ≤ ds.length) :
    XS c ⟨dst, .load t x, ty, pos, after, gd⟩ H σ (.d (.ag ((ds.drop o).take n))) := by
  refine XS.of_val fun bs a w hW hops => ?_
  obtain ⟨g, hb, hv⟩ := sv_p (hops x (by simp [Op.operands]) _ hx)
  obtain ⟨vs, hl, hc, hr⟩ := box_cells hW hb hH hd
  exact ⟨_, by simp [execOp, hv, Instr.loadAt, Instr.sureAddr, load_row ht hn hl hc], hr⟩
theorem XS.loadE {t : TypeId} {x : Operand} {ds : List Dv} {d : Dv} (hx : evS σ x = some (.e ds)) (ht : oneB c.P t = true) (hd : ds[0]? = some d) : XS c ⟨dst, .load t x, ty, pos, after, gd⟩ H σ (.d d) := by
  refine XS.of_val fun bs a w hW hops => ?_
  obtain ⟨g, off, cells, t', fr, hv, hh, hn, hl, hr⟩ := hops x (by simp [Op.operands]) _ hx
  obtain ⟨u, hu, hr⟩ := hr 0 d hd
  have hc : w.cell? ⟨g, off, none⟩ = some u := by simp [World.cell?, hh]; simpa using hu
  exact ⟨u, by simp [execOp, hv, Instr.loadAt, Instr.sureAddr, load_one ht hc], hr⟩
theorem XS.loadEA {t : TypeId} {x : Operand} {n : Nat} {ds : List Dv} (hx : evS σ x = some (.e ds)) (ht : rowB c.P t = true) (hn : szB c.P t = some n) (hd : n ≤ ds.length) :
    XS c ⟨dst, .load t x, ty, pos, after, gd⟩ H σ (.d (.ag (ds.take n))) := by
  refine XS.of_val fun bs a w hW hops => ?_
  obtain ⟨g, off, cells, t', fr, hv, hh, hn', hl, hr⟩ := hops x (by simp [Op.operands]) _ hx
  have hcell : ∀ j, j < n → ∃ u, cells[off + j]? = some u := fun j hj => by
    obtain ⟨u, hu, _⟩ := hr j ds[j] (List.getElem?_eq_getElem (by omega))
    exact ⟨u, hu⟩
  have hlen : n = 0 ∨ off + n ≤ cells.size := by
    rcases Nat.eq_zero_or_pos n with h | h
    · exact .inl h
    · obtain ⟨u, hu⟩ := hcell (n - 1) (by omega)
      have := (Array.getElem?_eq_some_iff.1 hu).1
      exact .inr (by omega)
  have hl' : ((cells.toList.drop off).take n).length = n := by simp; omega
  refine ⟨.agg ((cells.toList.drop off).take n).toArray, ?_, Rep.ag (by rw [hl']; simp; omega) (fun d hd => hl d (List.mem_of_mem_take hd)) (fun i d v hd' hv' => ?_)⟩
  · have := load_row (P := c.P) ht hn hl' (w := w) (a := ⟨g, off, none⟩) (fun j v hj => by
      rw [add_at]
      rw [List.getElem?_take] at hj
      split at hj
      · rw [List.getElem?_drop] at hj
        simp only [World.cell?, hh]; simpa using hj
      · cases hj)
    simp [execOp, hv, Instr.loadAt, Instr.sureAddr, this]
  · rw [List.getElem?_take] at hd' hv'
    split at hd'
    · rename_i hi
      rw [if_pos hi] at hv'
      rw [List.getElem?_drop] at hv'
      obtain ⟨u, hu, hru⟩ := hr i d hd'
      have : v = u := by
        have : cells[off + i]? = some v := by simpa using hv'
        rw [this] at hu; exact Option.some.inj hu
      subst this; exact hru
    · cases hd'

/-- Where a field lies (of a struct; the field has cells). -/
def foffB (P : Program) (t : TypeId) (i : Nat) : Option Nat := match P.underlying t with
  | some (.struct fs) => match fs[i]? with
    | some f => match P.info? f.type with
      | some q => if q.size = 0 then none else some f.offset
      | none => none
    | none => none
  | _ => none
theorem foff_run {P : Program} {t : TypeId} {i o : Nat} (h : foffB P t i = some o) (w : World) (a : Addr) : (Instr.fieldAt t (.pointer (some a)) i).run P w = .ok (.pointer (some (a.add o))) w := by
  unfold foffB at h
  split at h
  · rename_i fs hu
    cases hf : fs[i]? with
    | none => rw [hf] at h; cases h
    | some f =>
      rw [hf] at h
      simp only at h
      cases hq : P.info? f.type with
      | none => rw [hq] at h; cases h
      | some q =>
        rw [hq] at h
        simp only at h
        split at h
        · cases h
        · rename_i hz
          cases h
          simp [Instr.fieldAt, run_underlying hu, hf, Instr.sureAddr, fieldPlace, sizeOf, typeInfo, hq, hz]
  · cases h
theorem XS.field {t : TypeId} {x : Operand} {i b o f : Nat} (hx : evS σ x = some (.p b o)) (hf : foffB c.P t i = some f) : XS c ⟨dst, .fieldAddr t x i, ty, pos, after, gd⟩ H σ (.p b (o + f)) := by
  refine XS.of_val fun bs a w hW hops => ?_
  obtain ⟨g, hb, hv⟩ := sv_p (hops x (by simp [Op.operands]) _ hx)
  exact ⟨.pointer (some ((⟨g, o, none⟩ : Addr).add f)), by simp [execOp, hv, foff_run hf], g, hb, by rw [add_at]⟩
theorem XS.fieldE {t : TypeId} {x : Operand} {i f : Nat} {ds : List Dv} (hx : evS σ x = some (.e ds)) (hf : foffB c.P t i = some f) : XS c ⟨dst, .fieldAddr t x i, ty, pos, after, gd⟩ H σ (.e (ds.drop f)) := by
  refine XS.of_val fun bs a w hW hops => ?_
  obtain ⟨g, off, cells, t', fr, hv, hh, hn, hl, hr⟩ := hops x (by simp [Op.operands]) _ hx
  refine ⟨_, by simp [execOp, hv, foff_run hf]; rfl, g, off + f, cells, t', fr, by rw [add_at], hh, hn, fun d hd => hl d (List.mem_of_mem_drop hd), fun j d hd => ?_⟩
  rw [List.getElem?_drop] at hd
  obtain ⟨u, hu, hru⟩ := hr _ d hd
  exact ⟨u, by rw [Nat.add_assoc]; exact hu, hru⟩

def elemB (P : Program) (t : TypeId) : Option Nat := match P.underlying t with
  | some (.slice e) => szB P e
  | _ => none
theorem elem_u {P : Program} {t : TypeId} {n : Nat} (h : elemB P t = some n) : ∃ e, P.underlying t = some (.slice e) ∧ szB P e = some n := by
  unfold elemB at h; split at h
  · exact ⟨_, ‹_›, h⟩
  · cases h
theorem Rep.sl_inv {T : Nat → Prop} {w : World} {xs : List (List Dv)} {v : Value} (h : Rep T w (.sl xs) v) : (xs = [] ∧ ∃ A c, v = .slice A 0 c) ∨
    ∃ (g off c sz : Nat) (cells : Array Value) (e : TypeId) (fr : Nat × Nat) (u : Nat → Nat → Value), v = .slice (some ⟨g, off, none⟩) xs.length c ∧ 0 < xs.length ∧ xs.length ≤ c ∧ w.heap[g]? = some (.cells cells e fr) ∧ ¬ T g ∧ (∀ x ∈ xs, x.length = sz) ∧
      (∀ x ∈ xs, ∀ d ∈ x, leaf d = true) ∧ (∀ (i j : Nat), i < xs.length → j < sz → cells[off + i * sz + j]? = some (u i j)) ∧
      (∀ (i : Nat) (x : List Dv) (j : Nat) (d : Dv), xs[i]? = some x → x[j]? = some d → Rep T w d (u i j)) := by
  generalize hd : Dv.sl xs = d at h
  cases h with
  | sl0 => cases hd; exact .inl ⟨rfl, _, _, rfl⟩
  | sl1 k0 k1 k2 k3 k4 k5 k6 k7 => cases hd; exact .inr ⟨_, _, _, _, _, _, _, _, rfl, k0, k1, k2, k3, k4, k5, k6, k7⟩
  | _ => cases hd

theorem XS.indexSl {t : TypeId} {x y : Operand} {k : IntKind} {i : Int} {n : Nat} {xs : List (List Dv)} {ds : List Dv} (hx : evS σ x = some (.d (.sl xs))) (hy : evS σ y = some (.d (.im (.int k i)))) (ht : elemB c.P t = some n)
    (h0 : 0 ≤ i) (hi : xs[i.toNat]? = some ds) (hl : ds.length = n) : XS c ⟨dst, .indexAddr t x y, ty, pos, after, gd⟩ H σ (.e ds) := by
  refine XS.of_val fun bs a w hW hops => ?_
  have h1 := hops x (by simp [Op.operands]) _ hx
  have e2 := Rep.im_inv (hops y (by simp [Op.operands]) _ hy)
  have hlt : i.toNat < xs.length := (List.getElem?_eq_some_iff.1 hi).1
  rcases Rep.sl_inv h1 with ⟨rfl, _⟩ | ⟨g, off, cp, sz, cells, e, fr, u, hv, k0, k1, k2, k3, k4, k5, k6, k7⟩
  · simp at hlt
  · have hsz : ds.length = sz := k4 ds (List.mem_of_getElem? hi)
    obtain ⟨e', hu, hz⟩ := elem_u ht
    have hn : n = sz := by omega
    subst hn
    have hl' : i < (xs.length : Int) := by omega
    refine ⟨.pointer (some ⟨g, off + i.toNat * n, none⟩), ?_, g, off + i.toNat * n, cells, e, fr, rfl, k2, k3, fun d hd => k5 ds (List.mem_of_getElem? hi) d hd, fun j d hd => ?_⟩
    · have hr := size_run hz w
      simp [execOp, hv, e2, Instr.indexAt, asIntOf, run_underlying hu, h0, hl', hr, add_at]
    · have hj : j < n := by have := (List.getElem?_eq_some_iff.1 hd).1; omega
      exact ⟨u i.toNat j, k6 _ _ hlt hj, k7 _ ds _ d hi hd⟩

/-- An element of a row of the call's own. -/
theorem XS.indexR {t : TypeId} {x y : Operand} {k : IntKind} {i : Int} {b n sz : Nat} (hx : evS σ x = some (.r b n sz)) (hy : evS σ y = some (.d (.im (.int k i)))) (ht : elemB c.P t = some sz) (h0 : 0 ≤ i) (hi : i < n) :
    XS c ⟨dst, .indexAddr t x y, ty, pos, after, gd⟩ H σ (.p b (i.toNat * sz)) := by
  refine XS.of_val fun bs a w hW hops => ?_
  obtain ⟨g, cp, cells, t', hb, hv, hn, hh, hs⟩ := (hops x (by simp [Op.operands]) _ hx).resolve_left (fun h => by have := h.1; omega)
  have e2 := Rep.im_inv (hops y (by simp [Op.operands]) _ hy)
  obtain ⟨e', hu, hz⟩ := elem_u ht
  have hr := size_run hz w
  exact ⟨_, by simp [execOp, hv, e2, Instr.indexAt, asIntOf, run_underlying hu, h0, hi, hr]; rfl, g, hb, by rw [add_at]; simp⟩

theorem XS.lenSl {t : TypeId} {x : Operand} {xs : List (List Dv)} {n : Nat} (hx : evS σ x = some (.d (.sl xs))) (ht : elemB c.P t = some n) :
    XS c ⟨dst, .call ⟨.builtin .len, #[x], #[t]⟩, ty, pos, after, gd⟩ H σ (.d (.im (.int .i64 (xs.length : Int)))) := by
  refine XS.of_val fun bs a w hW hops => ?_
  have h1 := hops x (by simp [Op.operands, Call.operands]) _ hx
  obtain ⟨e', hu, hz⟩ := elem_u ht
  rcases Rep.sl_inv h1 with ⟨rfl, A, cp, hv⟩ | ⟨g, off, cp, sz, cells, e, fr, u, hv, k0⟩
  · exact ⟨_, by simp [execOp, resolve, invoke, builtin, hv, Builtin.len_, run_underlying hu, goInt], Rep.im rfl⟩
  · exact ⟨_, by simp [execOp, resolve, invoke, builtin, hv, Builtin.len_, run_underlying hu, goInt], Rep.im rfl⟩
theorem XS.lenR {t : TypeId} {x : Operand} {b m sz n : Nat} (hx : evS σ x = some (.r b m sz)) (ht : elemB c.P t = some n) :
    XS c ⟨dst, .call ⟨.builtin .len, #[x], #[t]⟩, ty, pos, after, gd⟩ H σ (.d (.im (.int .i64 (m : Int)))) := by
  refine XS.of_val fun bs a w hW hops => ?_
  obtain ⟨e', hu, hz⟩ := elem_u ht
  rcases hops x (by simp [Op.operands, Call.operands]) _ hx with ⟨rfl, hv, _⟩ | ⟨g, cp, cells, t', hb, hv, hn, hh, hs⟩
  · exact ⟨_, by simp [execOp, resolve, invoke, builtin, hv, Builtin.len_, run_underlying hu, goInt], Rep.im rfl⟩
  exact ⟨_, by simp [execOp, resolve, invoke, builtin, hv, Builtin.len_, run_underlying hu, goInt], Rep.im rfl⟩
theorem XS.lenStr {t : TypeId} {x : Operand} {s : ByteArray} (hx : evS σ x = some (.d (.im (.string s)))) (ht : strB c.P t = true) :
    XS c ⟨dst, .call ⟨.builtin .len, #[x], #[t]⟩, ty, pos, after, gd⟩ H σ (.d (.im (.int .i64 (s.size : Int)))) := by
  refine XS.of_val fun bs a w hW hops => ?_
  have e1 := Rep.im_inv (hops x (by simp [Op.operands, Call.operands]) _ hx)
  exact ⟨_, by simp [execOp, resolve, invoke, builtin, e1, Builtin.len_, run_underlying (strB_u ht), goInt], Rep.im rfl⟩

theorem XS.nilP {x : Operand} {b o : Nat} (hx : evS σ x = some (.p b o)) : XS c ⟨dst, .nilCheck x, ty, pos, after, gd⟩ H σ (.p b o) := by
  refine XS.of_val fun bs a w hW hops => ?_
  obtain ⟨g, hb, hv⟩ := sv_p (hops x (by simp [Op.operands]) _ hx)
  exact ⟨.pointer (some ⟨g, o, none⟩), by simp [execOp, hv], g, hb, rfl⟩
theorem XS.nilE {x : Operand} {ds : List Dv} (hx : evS σ x = some (.e ds)) : XS c ⟨dst, .nilCheck x, ty, pos, after, gd⟩ H σ (.e ds) := by
  refine XS.of_val fun bs a w hW hops => ?_
  obtain ⟨g, off, cells, t', fr, hv, r⟩ := hops x (by simp [Op.operands]) _ hx
  exact ⟨.pointer (some ⟨g, off, none⟩), by simp [execOp, hv], g, off, cells, t', fr, rfl, r⟩

theorem XS.fn {f : Fn} {xs ys : Array Operand} {d1 d2 : List Dv} (h1 : argD σ xs.toList = some d1) (h2 : argD σ ys.toList = some d2) : XS c ⟨dst, .makeFunc f xs ys, ty, pos, after, gd⟩ H σ (.d (.fn f d1 d2)) := by
  refine XS.of_val fun bs a w hW hops => ?_
  obtain ⟨l1, r1⟩ := argD_reps xs.toList d1 h1 (fun y hy => hops y (by simp [Op.operands]; exact .inl (by simpa using hy)))
  obtain ⟨l2, r2⟩ := argD_reps ys.toList d2 h2 (fun y hy => hops y (by simp [Op.operands]; exact .inr (by simpa using hy)))
  refine ⟨.func f (xs.map a.eval) (ys.map a.eval), by simp [execOp, Instr.makeFunc], ?_⟩
  have e1 : xs.map a.eval = (xs.toList.map a.eval).toArray := by apply Array.ext'; simp
  have e2 : ys.map a.eval = (ys.toList.map a.eval).toArray := by apply Array.ext'; simp
  rw [e1, e2]
  exact Rep.fn l1 l2 r1 r2
end
end Go.Proofs.Ytgafdhpagifpcaa.Av
