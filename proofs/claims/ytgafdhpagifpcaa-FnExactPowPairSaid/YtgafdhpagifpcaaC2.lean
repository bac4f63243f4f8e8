/-
  OWN WORK, printed by wip/tools/gen.py out of the translation and of the contracts in wip/specs.
-/
import Derived.Test.YtgafdhpagifpcaaC1
namespace Go.Proofs.Ytgafdhpagifpcaa.C
open Go Go.RowKit Go.Proofs.Ytgafdhpagifpcaa.Av Go.Proofs.Ytgafdhpagifpcaa.Ty Go.Proofs.Ytgafdhpagifpcaa.Num
set_option linter.unusedVariables false


theorem left_lt {l : Int} {n : Nat} (h : left l n < 0) (h0 : 0 ≤ l) : l < n ∧ left l n = -1 := by unfold left at *; split at h <;> split <;> omega
theorem left_out {l r : Int} {n : Nat} (h1 : l < n → r = -1) (h2 : ¬ l < n → r = l - n) : r = left l n := by
  unfold left
  split
  · exact h1 ‹_›
  · exact h2 ‹_›
structure Pr where
  a : ByteArray
  b : ByteArray
structure Pt where
  z : Bool
  x : ByteArray
  y : ByteArray
structure PPt where
  z : Bool
  x : Pr
  y : Pr
structure Prf where
  cv : Int
  a : Pt
  b : PPt
  c : Pt
def Pr.cs (p : Pr) : List Dv := [strD p.a, strD p.b]
def Pt.cs (p : Pt) : List Dv := [boolD p.z, strD p.x, strD p.y]
def PPt.cs (p : PPt) : List Dv := [boolD p.z, strD p.x.a, strD p.x.b, strD p.y.a, strD p.y.b]
def Prf.cs (p : Prf) : List Dv := [intD p.cv, boolD p.a.z, strD p.a.x, strD p.a.y, boolD p.b.z, strD p.b.x.a, strD p.b.x.b, strD p.b.y.a, strD p.b.y.b, boolD p.c.z, strD p.c.x, strD p.c.y]
def Pr.n (p : Pr) : Nat := p.a.size + p.b.size
def Pt.n (p : Pt) : Nat := p.x.size + p.y.size
def PPt.n (p : PPt) : Nat := p.x.n + p.y.n
def Prf.n (p : Prf) : Nat := p.a.n + p.b.n + p.c.n
def Pr.ok (p : Pr) : Prop := p.a.size ≤ maxLen ∧ p.b.size ≤ maxLen
def Pt.ok (p : Pt) : Prop := p.x.size ≤ maxLen ∧ p.y.size ≤ maxLen
def PPt.ok (p : PPt) : Prop := p.x.ok ∧ p.y.ok
def Prf.ok (p : Prf) : Prop := p.a.ok ∧ p.b.ok ∧ p.c.ok

set_option maxRecDepth 100000 in
theorem szPair_c {p : Pr} {l : Int} (hl : 0 ≤ l ∧ l ≤ 1048576) (hp : p.ok) : AC Try.prog 14 [.ag p.cs, intD l] (fun d => d = intD (left l p.n)) := by
  refine AC.intro Try.func14 Try.ntmps14 Try.results14 rfl (by simp) (fun w0 T => ?_)
  obtain ⟨hp1, hp2⟩ := hp
  simp only [maxLen] at hp1 hp2
  refine AW.seq ?_
  refine AW.region ?_
  refine AO.box rfl rfl rfl rfl ?_
  refine AO.xs rfl rfl rfl (XS.assign rfl) ?_
  refine AO.nil ?_
  refine AW.seq ?_
  refine AW.region ?_
  refine AO.xs rfl rfl rfl (XS.move rfl) ?_
  refine AO.xs rfl rfl rfl (XS.field rfl (fo rfl)) ?_
  refine AO.xs rfl rfl rfl (XS.load rfl (on rfl) rfl rfl) ?_
  refine AO.xs rfl rfl rfl (XS.lenStr rfl (st rfl)) ?_
  refine AO.xs rfl rfl rfl (XS.subI rfl rfl (by omega)) ?_
  refine AO.xs rfl rfl rfl (XS.assign rfl) ?_
  refine AO.nil ?_
  refine AW.seq ?_
  refine AW.seq ?_
  refine AW.region ?_
  refine AO.xs rfl rfl rfl (XS.move rfl) ?_
  refine AO.xs rfl rfl rfl (XS.int rfl rfl rfl) ?_
  refine AO.nil ?_
  refine AW.cond rfl (fun hb1 => ?_) (fun hb1 => ?_)
  · skip
    replace hb1 := of_decide_eq_true hb1
    refine AW.seq ?_
    refine AW.region ?_
    refine AO.xs rfl rfl rfl (XS.assign rfl) ?_
    refine AO.nil ?_
    refine AW.ret ?_
    exact ⟨_, rfl, congrArg intD (left_out (fun hz => by first | rfl | (simp only [Pr.n] at *; omega)) (fun hz => by simp only [Pr.n] at *; omega))⟩
  · skip
    replace hb1 := of_decide_eq_false hb1
    refine AW.skip ?_
    refine AW.seq ?_
    refine AW.region ?_
    refine AO.xs rfl rfl rfl (XS.move rfl) ?_
    refine AO.xs rfl rfl rfl (XS.field rfl (fo rfl)) ?_
    refine AO.xs rfl rfl rfl (XS.load rfl (on rfl) rfl rfl) ?_
    refine AO.xs rfl rfl rfl (XS.lenStr rfl (st rfl)) ?_
    refine AO.xs rfl rfl rfl (XS.subI rfl rfl (by omega)) ?_
    refine AO.xs rfl rfl rfl (XS.assign rfl) ?_
    refine AO.nil ?_
    refine AW.seq ?_
    refine AW.seq ?_
    refine AW.region ?_
    refine AO.xs rfl rfl rfl (XS.move rfl) ?_
    refine AO.xs rfl rfl rfl (XS.int rfl rfl rfl) ?_
    refine AO.nil ?_
    refine AW.cond rfl (fun hb2 => ?_) (fun hb2 => ?_)
    · skip
      replace hb2 := of_decide_eq_true hb2
      refine AW.seq ?_
      refine AW.region ?_
      refine AO.xs rfl rfl rfl (XS.assign rfl) ?_
      refine AO.nil ?_
      refine AW.ret ?_
      exact ⟨_, rfl, congrArg intD (left_out (fun hz => by first | rfl | (simp only [Pr.n] at *; omega)) (fun hz => by simp only [Pr.n] at *; omega))⟩
    · skip
      replace hb2 := of_decide_eq_false hb2
      refine AW.skip ?_
      refine AW.seq ?_
      refine AW.region ?_
      refine AO.xs rfl rfl rfl (XS.move rfl) ?_
      refine AO.xs rfl rfl rfl (XS.assign rfl) ?_
      refine AO.nil ?_
      refine AW.ret ?_
      exact ⟨_, rfl, congrArg intD (left_out (fun hz => by first | rfl | (simp only [Pr.n] at *; omega)) (fun hz => by simp only [Pr.n] at *; omega))⟩

set_option maxRecDepth 100000 in
theorem toPair_c {p : Pr} : AC Try.prog 16 [.ag p.cs] (fun d => d = .ag p.cs) := by
  refine AC.intro Try.func16 Try.ntmps16 Try.results16 rfl (by simp) (fun w0 T => ?_)
  refine AW.seq ?_
  refine AW.region ?_
  refine AO.box rfl rfl rfl rfl ?_
  refine AO.alloc rfl rfl (ze rfl) ?_
  refine AO.nil ?_
  refine AW.seq ?_
  refine AW.region ?_
  refine AO.alloc rfl rfl (ze rfl) ?_
  refine AO.nil ?_
  refine AW.seq ?_
  refine AW.region ?_
  refine AO.xs rfl rfl rfl (XS.field rfl (fo rfl)) ?_
  refine AO.xs rfl rfl rfl (XS.load rfl (on rfl) rfl rfl) ?_
  refine AO.xs rfl rfl rfl (XS.field rfl (fo rfl)) ?_
  refine AO.store rfl rfl rfl rfl (sz rfl) rfl rfl rfl rfl ?_
  refine AO.nil ?_
  refine AW.seq ?_
  refine AW.region ?_
  refine AO.xs rfl rfl rfl (XS.field rfl (fo rfl)) ?_
  refine AO.xs rfl rfl rfl (XS.load rfl (on rfl) rfl rfl) ?_
  refine AO.xs rfl rfl rfl (XS.field rfl (fo rfl)) ?_
  refine AO.store rfl rfl rfl rfl (sz rfl) rfl rfl rfl rfl ?_
  refine AO.nil ?_
  refine AW.seq ?_
  refine AW.region ?_
  refine AO.xs rfl rfl rfl (XS.loadA rfl (ro rfl) (sz rfl) rfl (Nat.le_of_ble_eq_true rfl)) ?_
  refine AO.store rfl rfl rfl rfl (sz rfl) rfl rfl rfl rfl ?_
  refine AO.nil ?_
  refine AW.ret ?_
  exact ⟨_, rfl, rfl⟩

end Go.Proofs.Ytgafdhpagifpcaa.C
