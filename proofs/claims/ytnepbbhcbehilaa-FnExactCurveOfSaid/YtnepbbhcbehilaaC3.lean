/-
  OWN WORK, printed by wip/tools/gen.py out of the translation and of the contracts in wip/specs.
-/
import Derived.Test.YtnepbbhcbehilaaC2
import Derived.Test.YtnepbbhcbehilaaAvR
namespace Go.Proofs.Ytnepbbhcbehilaa.C
open Go Go.RowKit Go.Proofs.Ytnepbbhcbehilaa.Av Go.Proofs.Ytnepbbhcbehilaa.Ty
set_option linter.unusedVariables false


theorem Pr.cs_inj {p q : Pr} : p.cs = q.cs ↔ p = q := by
  cases p; cases q; simp [Pr.cs, strD]
theorem Pt.cs_inj {p q : Pt} : p.cs = q.cs ↔ p = q := by
  cases p; cases q; simp [Pt.cs, strD, boolD]
theorem PPt.cs_inj {p q : PPt} : p.cs = q.cs ↔ p = q := by
  obtain ⟨_, ⟨_, _⟩, ⟨_, _⟩⟩ := p
  obtain ⟨_, ⟨_, _⟩, ⟨_, _⟩⟩ := q
  simp [PPt.cs, strD, boolD, and_assoc]
structure Ky where
  cv : Int
  al : Pt
  be : PPt
  ga : PPt
  de : PPt
  ins : List Pt
def ptsD (l : List Pt) : Dv := .sl (l.map Pt.cs)
def Ky.cs (k : Ky) : List Dv := [intD k.cv, boolD k.al.z, strD k.al.x, strD k.al.y, boolD k.be.z, strD k.be.x.a, strD k.be.x.b, strD k.be.y.a, strD k.be.y.b,
  boolD k.ga.z, strD k.ga.x.a, strD k.ga.x.b, strD k.ga.y.a, strD k.ga.y.b, boolD k.de.z, strD k.de.x.a, strD k.de.x.b, strD k.de.y.a, strD k.de.y.b, ptsD k.ins]
def ptsN (l : List Pt) : Nat := l.length + (l.map Pt.n).sum
def Ky.n (k : Ky) : Nat := k.al.n + k.be.n + k.ga.n + k.de.n + ptsN k.ins
def Ky.ok (k : Ky) : Prop := k.al.ok ∧ k.be.ok ∧ k.ga.ok ∧ k.de.ok ∧ k.ins.length ≤ maxLen ∧ ∀ p ∈ k.ins, p.ok
theorem sum_succ {α : Type} {f : α → Nat} {l : List α} {i : Nat} (h : i < l.length) : ((l.take (i + 1)).map f).sum = ((l.take i).map f).sum + f l[i] := by
  rw [List.take_succ_eq_append_getElem h, List.map_append, List.sum_append]
  simp
theorem sum_le {α : Type} (f : α → Nat) (l : List α) (i : Nat) : ((l.take i).map f).sum ≤ (l.map f).sum := by
  conv => rhs; rw [← List.take_append_drop i l]
  rw [List.map_append, List.sum_append]
  omega
theorem take_all {α : Type} {l m : List α} (h : l.take l.length = m.take l.length) (hm : m.length ≤ l.length) : l = m := by
  rw [List.take_length, List.take_of_length_le hm] at h
  exact h
theorem take_next {α : Type} {l m : List α} {i : Nat} (hl : i < l.length) (hm : i < m.length) (h : l.take i = m.take i) (he : l[i] = m[i]) : l.take (i + 1) = m.take (i + 1) := by
  rw [List.take_succ_eq_append_getElem hl, List.take_succ_eq_append_getElem hm, h, he]

set_option maxRecDepth 100000 in
theorem toPointS_c {xs : List Pt} (h : xs.length ≤ 1048576) : AC Try.prog 71 [ptsD xs] (fun d => d = ptsD xs) := by
  refine AC.intro Try.func71 Try.ntmps71 Try.results71 rfl (by simp) (fun w0 T => ?_)
  refine AW.seq ?_
  refine AW.region ?_
  refine AO.xs rfl rfl rfl (XS.assign rfl) ?_
  refine AO.nil ?_
  refine AW.seq ?_
  refine AW.region ?_
  refine AO.xs rfl rfl rfl (XS.move rfl) ?_
  refine AO.xs rfl rfl rfl (XS.lenM rfl (el rfl)) ?_
  refine AO.makeN rfl rfl rfl rfl (ap rfl) (by omega) (by omega) (by omega) ?_
  refine AO.xs rfl rfl rfl (XS.assign rfl) ?_
  refine AO.nil ?_
  refine AW.seq ?_
  refine AW.seq ?_
  refine AW.region ?_
  refine AO.xs rfl rfl rfl (XS.assign rfl) ?_
  refine AO.nil ?_
  refine AW.block ?_
  refine AW.loop [0, 2, 3] (fun i => [(4, .d (intD ((i : Nat) : Int)))]) (fun i => [(fillR Pt.cs [boolD false, strD ⟨#[]⟩, strD ⟨#[]⟩] xs i).flatten]) (fun i => i ≤ xs.length) (fun i => xs.length - i) (0) (Nat.zero_le _) ⟨rfl, trivial⟩ ⟨⟨_, rfl, rfl⟩, ⟨_, rfl, rfl⟩, ⟨_, rfl, rfl⟩, trivial⟩ (congrArg (fun z => [List.flatten z]) (fillR_zero _ _ _).symm) ?_
  intro i hi
  refine AW.seq ?_
  refine AW.seq ?_
  refine AW.region ?_
  refine AO.xs rfl rfl rfl (XS.move rfl) ?_
  refine AO.xs rfl rfl rfl (XS.move rfl) ?_
  refine AO.xs rfl rfl rfl (XS.lenM rfl (el rfl)) ?_
  refine AO.xs rfl rfl rfl (XS.int rfl rfl rfl) ?_
  refine AO.nil ?_
  refine AW.cond rfl (fun hb1 => ?_) (fun hb1 => ?_)
  · skip
    replace hb1 := of_decide_eq_true hb1
    refine AW.skip ?_
    refine AW.seq ?_
    refine AW.block ?_
    refine AW.region ?_
    refine AO.xs rfl rfl rfl (XS.move rfl) ?_
    refine AO.xs rfl rfl rfl (XS.move rfl) ?_
    refine AO.xs rfl rfl rfl (XS.move rfl) ?_
    refine AO.xs rfl rfl rfl (XS.move rfl) ?_
    refine AO.xs rfl rfl rfl (XS.indexM rfl rfl (el rfl) (by omega) rfl) ?_
    refine AO.xs rfl rfl rfl (XS.loadEA rfl (ro rfl) (sz rfl) (Nat.le_of_ble_eq_true rfl)) ?_
    refine AO.xs rfl rfl rfl (XS.call rfl (by kernel_rfl) rfl toPoint_c) ?_
    refine AO.xs rfl rfl rfl (XS.indexRN rfl rfl (el rfl) (by omega)) ?_
    refine AO.storeR rfl rfl rfl rfl (sz rfl) rfl rfl (fillR_each (fun _ => rfl) rfl) (by rw [fillR_len (by omega)]; omega) rfl ?_
    refine AO.nil ?_
    refine AW.region ?_
    refine AO.xs rfl rfl rfl (XS.move rfl) ?_
    refine AO.xs rfl rfl rfl (XS.addI rfl rfl (by omega)) ?_
    refine AO.xs rfl rfl rfl (XS.assign rfl) ?_
    refine AO.nil ?_
    exact ⟨i + 1, (by omega), (by dsimp only; omega), ⟨rfl, trivial⟩, ⟨⟨_, rfl, rfl⟩, ⟨_, rfl, rfl⟩, ⟨_, rfl, rfl⟩, trivial⟩, (congrArg (fun z => [List.flatten z]) (fillR_set (by omega)))⟩
  · skip
    replace hb1 := of_decide_eq_false hb1
    refine AW.exit ?_
    refine AW.seq ?_
    obtain rfl : i = xs.length := by omega
    refine AW.setH (congrArg (fun z => [List.flatten z]) (fillR_all _ _ _)) ?_
    refine AW.region ?_
    refine AO.xs rfl rfl rfl (XS.move rfl) ?_
    refine AO.xs rfl rfl rfl (XS.assign rfl) ?_
    refine AO.nil ?_
    refine AW.freezeM 2 rfl (Nat.zero_le _) rfl (by decide) (fun _ _ => rfl) rfl ?_
    refine AW.ret ?_
    exact ⟨_, rfl, rfl⟩

set_option maxRecDepth 100000 in
theorem eqPoint_c {p q : Pt} : AC Try.prog 73 [.ag p.cs, .ag q.cs] (fun d => d = boolD (eqP (p = q))) := by
  refine AC.intro Try.func73 Try.ntmps73 Try.results73 rfl (by simp) (fun w0 T => ?_)
  refine AW.seq ?_
  refine AW.region ?_
  refine AO.box rfl rfl rfl rfl ?_
  refine AO.box rfl rfl rfl rfl ?_
  refine AO.xs rfl rfl rfl (XS.assign rfl) ?_
  refine AO.nil ?_
  refine AW.seq ?_
  refine AW.seq ?_
  refine AW.region ?_
  refine AO.xs rfl rfl rfl (XS.field rfl (fo rfl)) ?_
  refine AO.xs rfl rfl rfl (XS.load rfl (on rfl) rfl rfl) ?_
  refine AO.xs rfl rfl rfl (XS.field rfl (fo rfl)) ?_
  refine AO.xs rfl rfl rfl (XS.load rfl (on rfl) rfl rfl) ?_
  refine AO.xs rfl rfl rfl (XS.boolNe rfl rfl (bo rfl)) ?_
  refine AO.nil ?_
  refine AW.cond rfl (fun hb1 => ?_) (fun hb1 => ?_)
  · skip
    replace hb1 := bne_iff_ne.1 hb1
    refine AW.seq ?_
    refine AW.region ?_
    refine AO.xs rfl rfl rfl (XS.assign rfl) ?_
    refine AO.nil ?_
    refine AW.ret ?_
    exact ⟨_, rfl, congrArg boolD (eqP_no (fun e => hb1 (by rw [e]))).symm⟩
  · skip
    replace hb1 := bne_eq_false_iff_eq.1 hb1
    refine AW.skip ?_
    refine AW.seq ?_
    refine AW.seq ?_
    refine AW.region ?_
    refine AO.xs rfl rfl rfl (XS.field rfl (fo rfl)) ?_
    refine AO.xs rfl rfl rfl (XS.load rfl (on rfl) rfl rfl) ?_
    refine AO.xs rfl rfl rfl (XS.field rfl (fo rfl)) ?_
    refine AO.xs rfl rfl rfl (XS.load rfl (on rfl) rfl rfl) ?_
    refine AO.xs rfl rfl rfl (XS.strNe rfl rfl) ?_
    refine AO.nil ?_
    refine AW.cond rfl (fun hb2 => ?_) (fun hb2 => ?_)
    · skip
      replace hb2 := eqP_iff.1 hb2
      refine AW.seq ?_
      refine AW.region ?_
      refine AO.xs rfl rfl rfl (XS.assign rfl) ?_
      refine AO.nil ?_
      refine AW.ret ?_
      exact ⟨_, rfl, congrArg boolD (eqP_no (fun e => hb2 (by rw [e]))).symm⟩
    · skip
      replace hb2 := eqP_false.1 hb2
      refine AW.skip ?_
      refine AW.seq ?_
      refine AW.seq ?_
      refine AW.region ?_
      refine AO.xs rfl rfl rfl (XS.field rfl (fo rfl)) ?_
      refine AO.xs rfl rfl rfl (XS.load rfl (on rfl) rfl rfl) ?_
      refine AO.xs rfl rfl rfl (XS.field rfl (fo rfl)) ?_
      refine AO.xs rfl rfl rfl (XS.load rfl (on rfl) rfl rfl) ?_
      refine AO.xs rfl rfl rfl (XS.strNe rfl rfl) ?_
      refine AO.nil ?_
      refine AW.cond rfl (fun hb3 => ?_) (fun hb3 => ?_)
      · skip
        replace hb3 := eqP_iff.1 hb3
        refine AW.seq ?_
        refine AW.region ?_
        refine AO.xs rfl rfl rfl (XS.assign rfl) ?_
        refine AO.nil ?_
        refine AW.ret ?_
        exact ⟨_, rfl, congrArg boolD (eqP_no (fun e => hb3 (by rw [e]))).symm⟩
      · skip
        replace hb3 := eqP_false.1 hb3
        refine AW.skip ?_
        refine AW.seq ?_
        refine AW.region ?_
        refine AO.xs rfl rfl rfl (XS.assign rfl) ?_
        refine AO.nil ?_
        refine AW.ret ?_
        exact ⟨_, rfl, congrArg boolD (eqP_yes (Pt.cs_inj.1 (by simp only [Pt.cs, hb1, Classical.not_not.1 hb2, Classical.not_not.1 hb3]))).symm⟩

set_option maxRecDepth 100000 in
theorem eqPointS_c {xs ys : List Pt} (hx : xs.length ≤ 1048576) : AC Try.prog 74 [ptsD xs, ptsD ys] (fun d => d = boolD (eqP (xs = ys))) := by
  refine AC.intro Try.func74 Try.ntmps74 Try.results74 rfl (by simp) (fun w0 T => ?_)
  refine AW.seq ?_
  refine AW.region ?_
  refine AO.xs rfl rfl rfl (XS.assign rfl) ?_
  refine AO.nil ?_
  refine AW.seq ?_
  refine AW.seq ?_
  refine AW.region ?_
  refine AO.xs rfl rfl rfl (XS.move rfl) ?_
  refine AO.xs rfl rfl rfl (XS.lenM rfl (el rfl)) ?_
  refine AO.xs rfl rfl rfl (XS.move rfl) ?_
  refine AO.xs rfl rfl rfl (XS.lenM rfl (el rfl)) ?_
  refine AO.xs rfl rfl rfl (XS.int rfl rfl rfl) ?_
  refine AO.nil ?_
  refine AW.cond rfl (fun hb1 => ?_) (fun hb1 => ?_)
  · skip
    replace hb1 := bne_iff_ne.1 hb1
    refine AW.seq ?_
    refine AW.region ?_
    refine AO.xs rfl rfl rfl (XS.assign rfl) ?_
    refine AO.nil ?_
    refine AW.ret ?_
    exact ⟨_, rfl, congrArg boolD (eqP_no (fun e => hb1 (by rw [e]))).symm⟩
  · skip
    replace hb1 := bne_eq_false_iff_eq.1 hb1
    refine AW.skip ?_
    refine AW.seq ?_
    refine AW.seq ?_
    refine AW.region ?_
    refine AO.xs rfl rfl rfl (XS.assign rfl) ?_
    refine AO.nil ?_
    refine AW.block ?_
    refine AW.loop [0, 1] (fun i => [(5, .d (intD ((i : Nat) : Int)))]) (fun _ => _) (fun i => i ≤ xs.length ∧ xs.take i = ys.take i) (fun i => xs.length - i) (0) ⟨Nat.zero_le _, by simp⟩ ⟨rfl, trivial⟩ ⟨⟨_, rfl, rfl⟩, ⟨_, rfl, rfl⟩, trivial⟩ rfl ?_
    intro i ⟨hi, hk⟩
    refine AW.seq ?_
    refine AW.seq ?_
    refine AW.region ?_
    refine AO.xs rfl rfl rfl (XS.move rfl) ?_
    refine AO.xs rfl rfl rfl (XS.move rfl) ?_
    refine AO.xs rfl rfl rfl (XS.lenM rfl (el rfl)) ?_
    refine AO.xs rfl rfl rfl (XS.int rfl rfl rfl) ?_
    refine AO.nil ?_
    refine AW.cond rfl (fun hb2 => ?_) (fun hb2 => ?_)
    · skip
      replace hb2 := of_decide_eq_true hb2
      refine AW.skip ?_
      refine AW.seq ?_
      refine AW.block ?_
      refine AW.seq ?_
      refine AW.drawn mix ?_
      refine DC.cons rfl rfl rfl (XS.move rfl) ?_
      refine DC.cons rfl rfl rfl (XS.move rfl) ?_
      refine DC.cons rfl rfl rfl (XS.indexM rfl rfl (el rfl) (by omega) rfl) ?_
      refine DC.cons rfl rfl rfl (XS.loadEA rfl (ro rfl) (sz rfl) (Nat.le_of_ble_eq_true rfl)) ?_
      refine DC.cons rfl rfl rfl (XS.move rfl) ?_
      refine DC.cons rfl rfl rfl (XS.move rfl) ?_
      refine DC.cons rfl rfl rfl (XS.indexM rfl rfl (el rfl) (by omega) rfl) ?_
      refine DC.cons rfl rfl rfl (XS.loadEA rfl (ro rfl) (sz rfl) (Nat.le_of_ble_eq_true rfl)) ?_
      refine DC.cons rfl rfl rfl (XS.call rfl (by kernel_rfl) rfl eqPoint_c) ?_
      refine DC.cons rfl rfl rfl (XS.not rfl) ?_
      refine DC.done (by kernel_rfl) ?_
      refine AO.nil ?_
      refine AW.cond rfl (fun hb3 => ?_) (fun hb3 => ?_)
      · skip
        replace hb3 := eqP_false.1 (notT hb3)
        refine AW.seq ?_
        refine AW.region ?_
        refine AO.xs rfl rfl rfl (XS.assign rfl) ?_
        refine AO.nil ?_
        refine AW.ret ?_
        exact ⟨_, rfl, congrArg boolD (eqP_no (fun e => hb3 (by subst e; rfl))).symm⟩
      · skip
        replace hb3 := eqP_iff.1 (notF hb3)
        refine AW.skip ?_
        refine AW.region ?_
        refine AO.xs rfl rfl rfl (XS.move rfl) ?_
        refine AO.xs rfl rfl rfl (XS.addI rfl rfl (by omega)) ?_
        refine AO.xs rfl rfl rfl (XS.assign rfl) ?_
        refine AO.nil ?_
        exact ⟨i + 1, ⟨by omega, take_next (by omega) (by omega) hk (hb3)⟩, (by dsimp only; omega), ⟨rfl, trivial⟩, ⟨⟨_, rfl, rfl⟩, ⟨_, rfl, rfl⟩, trivial⟩, rfl⟩
    · skip
      replace hb2 := of_decide_eq_false hb2
      refine AW.exit ?_
      refine AW.seq ?_
      refine AW.region ?_
      refine AO.xs rfl rfl rfl (XS.assign rfl) ?_
      refine AO.nil ?_
      refine AW.ret ?_
      obtain rfl : i = xs.length := by omega
      exact ⟨_, rfl, congrArg boolD (eqP_yes (take_all hk (by omega))).symm⟩

set_option maxRecDepth 100000 in
theorem equalPoints_c {xs ys : List Pt} (hx : xs.length ≤ 1048576) : AC Try.prog 72 [ptsD xs, ptsD ys] (fun d => d = boolD (eqP (xs = ys))) := by
  refine AC.intro Try.func72 Try.ntmps72 Try.results72 rfl (by simp) (fun w0 T => ?_)
  refine AW.seq ?_
  refine AW.region ?_
  refine AO.xs rfl rfl rfl (XS.assign rfl) ?_
  refine AO.nil ?_
  refine AW.seq ?_
  refine AW.seq ?_
  refine AW.region ?_
  refine AO.xs rfl rfl rfl (XS.move rfl) ?_
  refine AO.xs rfl rfl rfl (XS.lenM rfl (el rfl)) ?_
  refine AO.xs rfl rfl rfl (XS.move rfl) ?_
  refine AO.xs rfl rfl rfl (XS.lenM rfl (el rfl)) ?_
  refine AO.xs rfl rfl rfl (XS.int rfl rfl rfl) ?_
  refine AO.nil ?_
  refine AW.cond rfl (fun hb1 => ?_) (fun hb1 => ?_)
  · skip
    replace hb1 := bne_iff_ne.1 hb1
    refine AW.seq ?_
    refine AW.region ?_
    refine AO.xs rfl rfl rfl (XS.assign rfl) ?_
    refine AO.nil ?_
    refine AW.ret ?_
    exact ⟨_, rfl, congrArg boolD (eqP_no (fun e => hb1 (by rw [e]))).symm⟩
  · skip
    replace hb1 := bne_eq_false_iff_eq.1 hb1
    refine AW.skip ?_
    refine AW.seq ?_
    refine AW.seq ?_
    refine AW.region ?_
    refine AO.xs rfl rfl rfl (XS.move rfl) ?_
    refine AO.xs rfl rfl rfl (XS.lenM rfl (el rfl)) ?_
    refine AO.xs rfl rfl rfl (XS.move rfl) ?_
    refine AO.nil ?_
    refine AW.block ?_
    refine AW.loop [0, 1, 12] (fun i => [(13, .d (intD ((i : Nat) : Int)))]) (fun _ => _) (fun i => i ≤ xs.length ∧ xs.take i = ys.take i) (fun i => xs.length - i) (0) ⟨Nat.zero_le _, by simp⟩ ⟨rfl, trivial⟩ ⟨⟨_, rfl, rfl⟩, ⟨_, rfl, rfl⟩, ⟨_, rfl, rfl⟩, trivial⟩ rfl ?_
    intro i ⟨hi, hk⟩
    refine AW.seq ?_
    refine AW.region ?_
    refine AO.xs rfl rfl rfl (XS.int rfl rfl rfl) ?_
    refine AO.nil ?_
    refine AW.seq ?_
    refine AW.cond rfl (fun hb2 => ?_) (fun hb2 => ?_)
    · skip
      replace hb2 := of_decide_eq_true hb2
      refine AW.skip ?_
      refine AW.seq ?_
      refine AW.block ?_
      refine AW.seq ?_
      refine AW.region ?_
      refine AO.xs rfl rfl rfl (XS.move rfl) ?_
      refine AO.xs rfl rfl rfl (XS.assign rfl) ?_
      refine AO.nil ?_
      refine AW.seq ?_
      refine AW.drawn mix ?_
      refine DC.cons rfl rfl rfl (XS.move rfl) ?_
      refine DC.cons rfl rfl rfl (XS.move rfl) ?_
      refine DC.cons rfl rfl rfl (XS.indexM rfl rfl (el rfl) (by omega) rfl) ?_
      refine DC.cons rfl rfl rfl (XS.loadEA rfl (ro rfl) (sz rfl) (Nat.le_of_ble_eq_true rfl)) ?_
      refine DC.cons rfl rfl rfl (XS.move rfl) ?_
      refine DC.cons rfl rfl rfl (XS.move rfl) ?_
      refine DC.cons rfl rfl rfl (XS.indexM rfl rfl (el rfl) (by omega) rfl) ?_
      refine DC.cons rfl rfl rfl (XS.loadEA rfl (ro rfl) (sz rfl) (Nat.le_of_ble_eq_true rfl)) ?_
      refine DC.cons rfl rfl rfl (XS.neqS rfl rfl (eqs rfl) rfl rfl) ?_
      refine DC.done (by kernel_rfl) ?_
      refine AO.nil ?_
      refine AW.cond rfl (fun hb3 => ?_) (fun hb3 => ?_)
      · skip
        replace hb3 := eqP_iff.1 hb3
        refine AW.seq ?_
        refine AW.region ?_
        refine AO.xs rfl rfl rfl (XS.assign rfl) ?_
        refine AO.nil ?_
        refine AW.ret ?_
        exact ⟨_, rfl, congrArg boolD (eqP_no (fun e => hb3 (by subst e; rfl))).symm⟩
      · skip
        replace hb3 := eqP_false.1 hb3
        refine AW.skip ?_
        refine AW.region ?_
        refine AO.xs rfl rfl rfl (XS.addI rfl rfl (by omega)) ?_
        refine AO.xs rfl rfl rfl (XS.move rfl) ?_
        refine AO.nil ?_
        exact ⟨i + 1, ⟨by omega, take_next (by omega) (by omega) hk (Pt.cs_inj.1 (Classical.not_not.1 hb3))⟩, (by dsimp only; omega), ⟨rfl, trivial⟩, ⟨⟨_, rfl, rfl⟩, ⟨_, rfl, rfl⟩, ⟨_, rfl, rfl⟩, trivial⟩, rfl⟩
    · skip
      replace hb2 := of_decide_eq_false hb2
      refine AW.exit ?_
      refine AW.seq ?_
      refine AW.region ?_
      refine AO.xs rfl rfl rfl (XS.assign rfl) ?_
      refine AO.nil ?_
      refine AW.ret ?_
      obtain rfl : i = xs.length := by omega
      exact ⟨_, rfl, congrArg boolD (eqP_yes (take_all hk (by omega))).symm⟩

set_option maxRecDepth 100000 in
theorem szPointS_c {xs : List Pt} {l : Int} (hl : 0 ≤ l ∧ l ≤ 1048576) (hn : xs.length ≤ maxLen) (hz : ∀ p ∈ xs, p.ok) : AC Try.prog 70 [ptsD xs, intD l] (fun d => d = intD (left l (ptsN xs))) := by
  refine AC.intro Try.func70 Try.ntmps70 Try.results70 rfl (by simp) (fun w0 T => ?_)
  simp only [maxLen] at hn
  refine AW.seq ?_
  refine AW.region ?_
  refine AO.xs rfl rfl rfl (XS.assign rfl) ?_
  refine AO.nil ?_
  refine AW.seq ?_
  refine AW.region ?_
  refine AO.xs rfl rfl rfl (XS.move rfl) ?_
  refine AO.xs rfl rfl rfl (XS.move rfl) ?_
  refine AO.xs rfl rfl rfl (XS.lenM rfl (el rfl)) ?_
  refine AO.xs rfl rfl rfl (XS.subI rfl rfl (by omega)) ?_
  refine AO.xs rfl rfl rfl (XS.assign rfl) ?_
  refine AO.nil ?_
  refine AW.seq ?_
  refine AW.seq ?_
  refine AW.region ?_
  refine AO.xs rfl rfl rfl (XS.move rfl) ?_
  refine AO.xs rfl rfl rfl (XS.int rfl rfl rfl) ?_
  refine AO.nil ?_
  refine AW.cond rfl (fun hb1 => ?_) (fun hb1 => ?_)
  · skip
    replace hb1 := of_decide_eq_true hb1
    refine AW.seq ?_
    refine AW.region ?_
    refine AO.xs rfl rfl rfl (XS.assign rfl) ?_
    refine AO.nil ?_
    refine AW.ret ?_
    exact ⟨_, rfl, congrArg intD (left_out (fun hz => rfl) (fun hz => by simp only [ptsN] at *; omega))⟩
  · skip
    replace hb1 := of_decide_eq_false hb1
    refine AW.skip ?_
    refine AW.seq ?_
    refine AW.seq ?_
    refine AW.region ?_
    refine AO.xs rfl rfl rfl (XS.assign rfl) ?_
    refine AO.nil ?_
    refine AW.block ?_
    refine AW.loop [0] (fun i => [(1, .d (intD (l - xs.length - ((xs.take i).map Pt.n).sum))), (5, .d (intD ((i : Nat) : Int)))]) (fun _ => _) (fun i => i ≤ xs.length ∧ 0 ≤ l - xs.length - ((xs.take i).map Pt.n).sum) (fun i => xs.length - i) (0) ⟨Nat.zero_le _, by simp; omega⟩ ⟨lk_I rfl (by simp), rfl, trivial⟩ ⟨⟨_, rfl, rfl⟩, trivial⟩ rfl ?_
    intro i ⟨hi, hk⟩
    refine AW.seq ?_
    refine AW.seq ?_
    refine AW.region ?_
    refine AO.xs rfl rfl rfl (XS.move rfl) ?_
    refine AO.xs rfl rfl rfl (XS.move rfl) ?_
    refine AO.xs rfl rfl rfl (XS.lenM rfl (el rfl)) ?_
    refine AO.xs rfl rfl rfl (XS.int rfl rfl rfl) ?_
    refine AO.nil ?_
    refine AW.cond rfl (fun hb2 => ?_) (fun hb2 => ?_)
    · skip
      replace hb2 := of_decide_eq_true hb2
      refine AW.skip ?_
      refine AW.seq ?_
      refine AW.block ?_
      refine AW.seq ?_
      refine AW.region ?_
      refine AO.xs rfl rfl rfl (XS.move rfl) ?_
      refine AO.xs rfl rfl rfl (XS.move rfl) ?_
      refine AO.xs rfl rfl rfl (XS.indexM rfl rfl (el rfl) (by omega) rfl) ?_
      refine AO.xs rfl rfl rfl (XS.loadEA rfl (ro rfl) (sz rfl) (Nat.le_of_ble_eq_true rfl)) ?_
      refine AO.xs rfl rfl rfl (XS.move rfl) ?_
      refine AO.xs rfl rfl rfl (XS.call rfl (by kernel_rfl) rfl (szPoint_c (by omega) (hz _ (List.getElem_mem (by omega))))) ?_
      refine AO.xs rfl rfl rfl (XS.assign rfl) ?_
      refine AO.nil ?_
      refine AW.seq ?_
      refine AW.region ?_
      refine AO.xs rfl rfl rfl (XS.move rfl) ?_
      refine AO.xs rfl rfl rfl (XS.int rfl rfl rfl) ?_
      refine AO.nil ?_
      refine AW.cond rfl (fun hb3 => ?_) (fun hb3 => ?_)
      · skip
        replace hb3 := of_decide_eq_true hb3
        have k3 := left_lt hb3 hk
        have h1 := sum_succ (f := Pt.n) (show i < xs.length by omega)
        have h2 := sum_le Pt.n xs (i + 1)
        refine AW.seq ?_
        refine AW.region ?_
        refine AO.xs rfl rfl rfl (XS.assign rfl) ?_
        refine AO.nil ?_
        refine AW.ret ?_
        exact ⟨_, rfl, congrArg intD (left_out (fun hz => rfl) (fun hz => by simp only [ptsN] at *; omega))⟩
      · skip
        replace hb3 := of_decide_eq_false hb3
        have k3 := left_ge hb3
        refine AW.skip ?_
        refine AW.region ?_
        refine AO.xs rfl rfl rfl (XS.move rfl) ?_
        refine AO.xs rfl rfl rfl (XS.addI rfl rfl (by omega)) ?_
        refine AO.xs rfl rfl rfl (XS.assign rfl) ?_
        refine AO.nil ?_
        exact ⟨i + 1, ⟨by omega, by rw [sum_succ (by omega)]; omega⟩, (by dsimp only; omega), ⟨lk_I rfl (by rw [sum_succ (by omega)]; omega), rfl, trivial⟩, ⟨⟨_, rfl, rfl⟩, trivial⟩, rfl⟩
    · skip
      replace hb2 := of_decide_eq_false hb2
      refine AW.exit ?_
      refine AW.seq ?_
      refine AW.region ?_
      refine AO.xs rfl rfl rfl (XS.move rfl) ?_
      refine AO.xs rfl rfl rfl (XS.assign rfl) ?_
      refine AO.nil ?_
      refine AW.ret ?_
      obtain rfl : i = xs.length := by omega
      rw [List.take_length] at *
      exact ⟨_, rfl, congrArg intD (left_out (fun hz => by simp only [ptsN] at *; omega) (fun hz => by simp only [ptsN] at *; omega))⟩

set_option maxRecDepth 100000 in
theorem eqPair_c {p q : Pr} : AC Try.prog 58 [.ag p.cs, .ag q.cs] (fun d => d = boolD (eqP (p = q))) := by
  refine AC.intro Try.func58 Try.ntmps58 Try.results58 rfl (by simp) (fun w0 T => ?_)
  refine AW.seq ?_
  refine AW.region ?_
  refine AO.box rfl rfl rfl rfl ?_
  refine AO.box rfl rfl rfl rfl ?_
  refine AO.xs rfl rfl rfl (XS.assign rfl) ?_
  refine AO.nil ?_
  refine AW.seq ?_
  refine AW.seq ?_
  refine AW.region ?_
  refine AO.xs rfl rfl rfl (XS.field rfl (fo rfl)) ?_
  refine AO.xs rfl rfl rfl (XS.load rfl (on rfl) rfl rfl) ?_
  refine AO.xs rfl rfl rfl (XS.field rfl (fo rfl)) ?_
  refine AO.xs rfl rfl rfl (XS.load rfl (on rfl) rfl rfl) ?_
  refine AO.xs rfl rfl rfl (XS.strNe rfl rfl) ?_
  refine AO.nil ?_
  refine AW.cond rfl (fun hb1 => ?_) (fun hb1 => ?_)
  · skip
    replace hb1 := eqP_iff.1 hb1
    refine AW.seq ?_
    refine AW.region ?_
    refine AO.xs rfl rfl rfl (XS.assign rfl) ?_
    refine AO.nil ?_
    refine AW.ret ?_
    exact ⟨_, rfl, congrArg boolD (eqP_no (fun e => hb1 (by rw [e]))).symm⟩
  · skip
    replace hb1 := eqP_false.1 hb1
    refine AW.skip ?_
    refine AW.seq ?_
    refine AW.seq ?_
    refine AW.region ?_
    refine AO.xs rfl rfl rfl (XS.field rfl (fo rfl)) ?_
    refine AO.xs rfl rfl rfl (XS.load rfl (on rfl) rfl rfl) ?_
    refine AO.xs rfl rfl rfl (XS.field rfl (fo rfl)) ?_
    refine AO.xs rfl rfl rfl (XS.load rfl (on rfl) rfl rfl) ?_
    refine AO.xs rfl rfl rfl (XS.strNe rfl rfl) ?_
    refine AO.nil ?_
    refine AW.cond rfl (fun hb2 => ?_) (fun hb2 => ?_)
    · skip
      replace hb2 := eqP_iff.1 hb2
      refine AW.seq ?_
      refine AW.region ?_
      refine AO.xs rfl rfl rfl (XS.assign rfl) ?_
      refine AO.nil ?_
      refine AW.ret ?_
      exact ⟨_, rfl, congrArg boolD (eqP_no (fun e => hb2 (by rw [e]))).symm⟩
    · skip
      replace hb2 := eqP_false.1 hb2
      refine AW.skip ?_
      refine AW.seq ?_
      refine AW.region ?_
      refine AO.xs rfl rfl rfl (XS.assign rfl) ?_
      refine AO.nil ?_
      refine AW.ret ?_
      exact ⟨_, rfl, congrArg boolD (eqP_yes (Pr.cs_inj.1 (by simp only [Pr.cs, Classical.not_not.1 hb1, Classical.not_not.1 hb2]))).symm⟩

set_option maxRecDepth 100000 in
theorem eqPairPoint_c {p q : PPt} : AC Try.prog 25 [.ag p.cs, .ag q.cs] (fun d => d = boolD (eqP (p = q))) := by
  refine AC.intro Try.func25 Try.ntmps25 Try.results25 rfl (by simp) (fun w0 T => ?_)
  refine AW.seq ?_
  refine AW.region ?_
  refine AO.box rfl rfl rfl rfl ?_
  refine AO.box rfl rfl rfl rfl ?_
  refine AO.xs rfl rfl rfl (XS.assign rfl) ?_
  refine AO.nil ?_
  refine AW.seq ?_
  refine AW.seq ?_
  refine AW.region ?_
  refine AO.xs rfl rfl rfl (XS.field rfl (fo rfl)) ?_
  refine AO.xs rfl rfl rfl (XS.load rfl (on rfl) rfl rfl) ?_
  refine AO.xs rfl rfl rfl (XS.field rfl (fo rfl)) ?_
  refine AO.xs rfl rfl rfl (XS.load rfl (on rfl) rfl rfl) ?_
  refine AO.xs rfl rfl rfl (XS.boolNe rfl rfl (bo rfl)) ?_
  refine AO.nil ?_
  refine AW.cond rfl (fun hb1 => ?_) (fun hb1 => ?_)
  · skip
    replace hb1 := bne_iff_ne.1 hb1
    refine AW.seq ?_
    refine AW.region ?_
    refine AO.xs rfl rfl rfl (XS.assign rfl) ?_
    refine AO.nil ?_
    refine AW.ret ?_
    exact ⟨_, rfl, congrArg boolD (eqP_no (fun e => hb1 (by rw [e]))).symm⟩
  · skip
    replace hb1 := bne_eq_false_iff_eq.1 hb1
    refine AW.skip ?_
    refine AW.seq ?_
    refine AW.seq ?_
    refine AW.region ?_
    refine AO.xs rfl rfl rfl (XS.field rfl (fo rfl)) ?_
    refine AO.xs rfl rfl rfl (XS.loadA rfl (ro rfl) (sz rfl) rfl (Nat.le_of_ble_eq_true rfl)) ?_
    refine AO.xs rfl rfl rfl (XS.field rfl (fo rfl)) ?_
    refine AO.xs rfl rfl rfl (XS.loadA rfl (ro rfl) (sz rfl) rfl (Nat.le_of_ble_eq_true rfl)) ?_
    refine AO.xs rfl rfl rfl (XS.call rfl (by kernel_rfl) rfl (eqPair_c (p := p.x) (q := q.x))) ?_
    refine AO.xs rfl rfl rfl (XS.not rfl) ?_
    refine AO.nil ?_
    refine AW.cond rfl (fun hb2 => ?_) (fun hb2 => ?_)
    · skip
      replace hb2 := eqP_false.1 (notT hb2)
      refine AW.seq ?_
      refine AW.region ?_
      refine AO.xs rfl rfl rfl (XS.assign rfl) ?_
      refine AO.nil ?_
      refine AW.ret ?_
      exact ⟨_, rfl, congrArg boolD (eqP_no (fun e => hb2 (by rw [e]))).symm⟩
    · skip
      replace hb2 := eqP_iff.1 (notF hb2)
      refine AW.skip ?_
      refine AW.seq ?_
      refine AW.seq ?_
      refine AW.region ?_
      refine AO.xs rfl rfl rfl (XS.field rfl (fo rfl)) ?_
      refine AO.xs rfl rfl rfl (XS.loadA rfl (ro rfl) (sz rfl) rfl (Nat.le_of_ble_eq_true rfl)) ?_
      refine AO.xs rfl rfl rfl (XS.field rfl (fo rfl)) ?_
      refine AO.xs rfl rfl rfl (XS.loadA rfl (ro rfl) (sz rfl) rfl (Nat.le_of_ble_eq_true rfl)) ?_
      refine AO.xs rfl rfl rfl (XS.call rfl (by kernel_rfl) rfl (eqPair_c (p := p.y) (q := q.y))) ?_
      refine AO.xs rfl rfl rfl (XS.not rfl) ?_
      refine AO.nil ?_
      refine AW.cond rfl (fun hb3 => ?_) (fun hb3 => ?_)
      · skip
        replace hb3 := eqP_false.1 (notT hb3)
        refine AW.seq ?_
        refine AW.region ?_
        refine AO.xs rfl rfl rfl (XS.assign rfl) ?_
        refine AO.nil ?_
        refine AW.ret ?_
        exact ⟨_, rfl, congrArg boolD (eqP_no (fun e => hb3 (by rw [e]))).symm⟩
      · skip
        replace hb3 := eqP_iff.1 (notF hb3)
        refine AW.skip ?_
        refine AW.seq ?_
        refine AW.region ?_
        refine AO.xs rfl rfl rfl (XS.assign rfl) ?_
        refine AO.nil ?_
        refine AW.ret ?_
        exact ⟨_, rfl, congrArg boolD (eqP_yes (PPt.cs_inj.1 (by simp only [PPt.cs, hb1, hb2, hb3]))).symm⟩

set_option maxRecDepth 100000 in
theorem szKey_c {k : Ky} {l : Int} (hl : 0 ≤ l ∧ l ≤ 1048576) (hk : k.ok) : AC Try.prog 26 [.ag k.cs, intD l] (fun d => d = intD (left l k.n)) := by
  refine AC.intro Try.func26 Try.ntmps26 Try.results26 rfl (by simp) (fun w0 T => ?_)
  refine AW.seq ?_
  refine AW.region ?_
  refine AO.box rfl rfl rfl rfl ?_
  refine AO.xs rfl rfl rfl (XS.assign rfl) ?_
  refine AO.nil ?_
  refine AW.seq ?_
  refine AW.region ?_
  refine AO.xs rfl rfl rfl (XS.field rfl (fo rfl)) ?_
  refine AO.xs rfl rfl rfl (XS.loadA rfl (ro rfl) (sz rfl) rfl (Nat.le_of_ble_eq_true rfl)) ?_
  refine AO.xs rfl rfl rfl (XS.move rfl) ?_
  refine AO.xs rfl rfl rfl (XS.call rfl (by kernel_rfl) rfl (szPoint_c (p := k.al) hl hk.1)) ?_
  refine AO.xs rfl rfl rfl (XS.assign rfl) ?_
  refine AO.nil ?_
  refine AW.seq ?_
  refine AW.seq ?_
  refine AW.region ?_
  refine AO.xs rfl rfl rfl (XS.move rfl) ?_
  refine AO.xs rfl rfl rfl (XS.int rfl rfl rfl) ?_
  refine AO.nil ?_
  refine AW.cond rfl (fun hb1 => ?_) (fun hb1 => ?_)
  · skip
    replace hb1 := of_decide_eq_true hb1
    have k1 := left_lt hb1 (by omega)
    refine AW.seq ?_
    refine AW.region ?_
    refine AO.xs rfl rfl rfl (XS.assign rfl) ?_
    refine AO.nil ?_
    refine AW.ret ?_
    exact ⟨_, rfl, congrArg intD (left_out (fun hz => by first | rfl | (simp only [Ky.n] at *; omega)) (fun hz => by simp only [Ky.n] at *; omega))⟩
  · skip
    replace hb1 := of_decide_eq_false hb1
    have k1 := left_ge hb1
    refine AW.skip ?_
    refine AW.seq ?_
    refine AW.region ?_
    refine AO.xs rfl rfl rfl (XS.field rfl (fo rfl)) ?_
    refine AO.xs rfl rfl rfl (XS.loadA rfl (ro rfl) (sz rfl) rfl (Nat.le_of_ble_eq_true rfl)) ?_
    refine AO.xs rfl rfl rfl (XS.move rfl) ?_
    refine AO.xs rfl rfl rfl (XS.call rfl (by kernel_rfl) rfl (szPairPoint_c (p := k.be) (by omega) hk.2.1)) ?_
    refine AO.xs rfl rfl rfl (XS.assign rfl) ?_
    refine AO.nil ?_
    refine AW.seq ?_
    refine AW.seq ?_
    refine AW.region ?_
    refine AO.xs rfl rfl rfl (XS.move rfl) ?_
    refine AO.xs rfl rfl rfl (XS.int rfl rfl rfl) ?_
    refine AO.nil ?_
    refine AW.cond rfl (fun hb2 => ?_) (fun hb2 => ?_)
    · skip
      replace hb2 := of_decide_eq_true hb2
      have k2 := left_lt hb2 (by omega)
      refine AW.seq ?_
      refine AW.region ?_
      refine AO.xs rfl rfl rfl (XS.assign rfl) ?_
      refine AO.nil ?_
      refine AW.ret ?_
      exact ⟨_, rfl, congrArg intD (left_out (fun hz => by first | rfl | (simp only [Ky.n] at *; omega)) (fun hz => by simp only [Ky.n] at *; omega))⟩
    · skip
      replace hb2 := of_decide_eq_false hb2
      have k2 := left_ge hb2
      refine AW.skip ?_
      refine AW.seq ?_
      refine AW.region ?_
      refine AO.xs rfl rfl rfl (XS.field rfl (fo rfl)) ?_
      refine AO.xs rfl rfl rfl (XS.loadA rfl (ro rfl) (sz rfl) rfl (Nat.le_of_ble_eq_true rfl)) ?_
      refine AO.xs rfl rfl rfl (XS.move rfl) ?_
      refine AO.xs rfl rfl rfl (XS.call rfl (by kernel_rfl) rfl (szPairPoint_c (p := k.ga) (by omega) hk.2.2.1)) ?_
      refine AO.xs rfl rfl rfl (XS.assign rfl) ?_
      refine AO.nil ?_
      refine AW.seq ?_
      refine AW.seq ?_
      refine AW.region ?_
      refine AO.xs rfl rfl rfl (XS.move rfl) ?_
      refine AO.xs rfl rfl rfl (XS.int rfl rfl rfl) ?_
      refine AO.nil ?_
      refine AW.cond rfl (fun hb3 => ?_) (fun hb3 => ?_)
      · skip
        replace hb3 := of_decide_eq_true hb3
        have k3 := left_lt hb3 (by omega)
        refine AW.seq ?_
        refine AW.region ?_
        refine AO.xs rfl rfl rfl (XS.assign rfl) ?_
        refine AO.nil ?_
        refine AW.ret ?_
        exact ⟨_, rfl, congrArg intD (left_out (fun hz => by first | rfl | (simp only [Ky.n] at *; omega)) (fun hz => by simp only [Ky.n] at *; omega))⟩
      · skip
        replace hb3 := of_decide_eq_false hb3
        have k3 := left_ge hb3
        refine AW.skip ?_
        refine AW.seq ?_
        refine AW.region ?_
        refine AO.xs rfl rfl rfl (XS.field rfl (fo rfl)) ?_
        refine AO.xs rfl rfl rfl (XS.loadA rfl (ro rfl) (sz rfl) rfl (Nat.le_of_ble_eq_true rfl)) ?_
        refine AO.xs rfl rfl rfl (XS.move rfl) ?_
        refine AO.xs rfl rfl rfl (XS.call rfl (by kernel_rfl) rfl (szPairPoint_c (p := k.de) (by omega) hk.2.2.2.1)) ?_
        refine AO.xs rfl rfl rfl (XS.assign rfl) ?_
        refine AO.nil ?_
        refine AW.seq ?_
        refine AW.seq ?_
        refine AW.region ?_
        refine AO.xs rfl rfl rfl (XS.move rfl) ?_
        refine AO.xs rfl rfl rfl (XS.int rfl rfl rfl) ?_
        refine AO.nil ?_
        refine AW.cond rfl (fun hb4 => ?_) (fun hb4 => ?_)
        · skip
          replace hb4 := of_decide_eq_true hb4
          have k4 := left_lt hb4 (by omega)
          refine AW.seq ?_
          refine AW.region ?_
          refine AO.xs rfl rfl rfl (XS.assign rfl) ?_
          refine AO.nil ?_
          refine AW.ret ?_
          exact ⟨_, rfl, congrArg intD (left_out (fun hz => by first | rfl | (simp only [Ky.n] at *; omega)) (fun hz => by simp only [Ky.n] at *; omega))⟩
        · skip
          replace hb4 := of_decide_eq_false hb4
          have k4 := left_ge hb4
          refine AW.skip ?_
          refine AW.seq ?_
          refine AW.region ?_
          refine AO.xs rfl rfl rfl (XS.field rfl (fo rfl)) ?_
          refine AO.xs rfl rfl rfl (XS.load rfl (on rfl) rfl rfl) ?_
          refine AO.xs rfl rfl rfl (XS.move rfl) ?_
          refine AO.xs rfl rfl rfl (XS.call rfl (by kernel_rfl) rfl (szPointS_c (by omega) hk.2.2.2.2.1 hk.2.2.2.2.2)) ?_
          refine AO.xs rfl rfl rfl (XS.assign rfl) ?_
          refine AO.nil ?_
          refine AW.seq ?_
          refine AW.seq ?_
          refine AW.region ?_
          refine AO.xs rfl rfl rfl (XS.move rfl) ?_
          refine AO.xs rfl rfl rfl (XS.int rfl rfl rfl) ?_
          refine AO.nil ?_
          refine AW.cond rfl (fun hb5 => ?_) (fun hb5 => ?_)
          · skip
            replace hb5 := of_decide_eq_true hb5
            have k5 := left_lt hb5 (by omega)
            refine AW.seq ?_
            refine AW.region ?_
            refine AO.xs rfl rfl rfl (XS.assign rfl) ?_
            refine AO.nil ?_
            refine AW.ret ?_
            exact ⟨_, rfl, congrArg intD (left_out (fun hz => by first | rfl | (simp only [Ky.n] at *; omega)) (fun hz => by simp only [Ky.n] at *; omega))⟩
          · skip
            replace hb5 := of_decide_eq_false hb5
            have k5 := left_ge hb5
            refine AW.skip ?_
            refine AW.seq ?_
            refine AW.region ?_
            refine AO.xs rfl rfl rfl (XS.move rfl) ?_
            refine AO.xs rfl rfl rfl (XS.assign rfl) ?_
            refine AO.nil ?_
            refine AW.ret ?_
            exact ⟨_, rfl, congrArg intD (left_out (fun hz => by first | rfl | (simp only [Ky.n] at *; omega)) (fun hz => by simp only [Ky.n] at *; omega))⟩

set_option maxRecDepth 100000 in
theorem toKey_c {k : Ky} (hn : k.ins.length ≤ 1048576) : AC Try.prog 28 [.ag k.cs] (fun d => d = .ag k.cs) := by
  refine AC.intro Try.func28 Try.ntmps28 Try.results28 rfl (by simp) (fun w0 T => ?_)
  refine AW.seq ?_
  refine AW.region ?_
  refine AO.box rfl rfl rfl rfl ?_
  refine AO.alloc rfl rfl (ze rfl) ?_
  refine AO.nil ?_
  refine AW.seq ?_
  refine AW.region ?_
  refine AO.alloc rfl rfl (ze rfl) ?_
  refine AO.nil ?_
  refine AW.seq ?_
  refine AW.region ?_
  refine AO.xs rfl rfl rfl (XS.field rfl (fo rfl)) ?_
  refine AO.xs rfl rfl rfl (XS.load rfl (on rfl) rfl rfl) ?_
  refine AO.xs rfl rfl rfl (XS.field rfl (fo rfl)) ?_
  refine AO.store rfl rfl rfl rfl (sz rfl) rfl rfl rfl rfl ?_
  refine AO.nil ?_
  refine AW.seq ?_
  refine AW.region ?_
  refine AO.xs rfl rfl rfl (XS.field rfl (fo rfl)) ?_
  refine AO.xs rfl rfl rfl (XS.loadA rfl (ro rfl) (sz rfl) rfl (Nat.le_of_ble_eq_true rfl)) ?_
  refine AO.xs rfl rfl rfl (XS.call rfl (by kernel_rfl) rfl (toPoint_c (p := k.al))) ?_
  refine AO.xs rfl rfl rfl (XS.field rfl (fo rfl)) ?_
  refine AO.store rfl rfl rfl rfl (sz rfl) rfl rfl rfl rfl ?_
  refine AO.nil ?_
  refine AW.seq ?_
  refine AW.region ?_
  refine AO.xs rfl rfl rfl (XS.field rfl (fo rfl)) ?_
  refine AO.xs rfl rfl rfl (XS.loadA rfl (ro rfl) (sz rfl) rfl (Nat.le_of_ble_eq_true rfl)) ?_
  refine AO.xs rfl rfl rfl (XS.call rfl (by kernel_rfl) rfl (toPairPoint_c (p := k.be))) ?_
  refine AO.xs rfl rfl rfl (XS.field rfl (fo rfl)) ?_
  refine AO.store rfl rfl rfl rfl (sz rfl) rfl rfl rfl rfl ?_
  refine AO.nil ?_
  refine AW.seq ?_
  refine AW.region ?_
  refine AO.xs rfl rfl rfl (XS.field rfl (fo rfl)) ?_
  refine AO.xs rfl rfl rfl (XS.loadA rfl (ro rfl) (sz rfl) rfl (Nat.le_of_ble_eq_true rfl)) ?_
  refine AO.xs rfl rfl rfl (XS.call rfl (by kernel_rfl) rfl (toPairPoint_c (p := k.ga))) ?_
  refine AO.xs rfl rfl rfl (XS.field rfl (fo rfl)) ?_
  refine AO.store rfl rfl rfl rfl (sz rfl) rfl rfl rfl rfl ?_
  refine AO.nil ?_
  refine AW.seq ?_
  refine AW.region ?_
  refine AO.xs rfl rfl rfl (XS.field rfl (fo rfl)) ?_
  refine AO.xs rfl rfl rfl (XS.loadA rfl (ro rfl) (sz rfl) rfl (Nat.le_of_ble_eq_true rfl)) ?_
  refine AO.xs rfl rfl rfl (XS.call rfl (by kernel_rfl) rfl (toPairPoint_c (p := k.de))) ?_
  refine AO.xs rfl rfl rfl (XS.field rfl (fo rfl)) ?_
  refine AO.store rfl rfl rfl rfl (sz rfl) rfl rfl rfl rfl ?_
  refine AO.nil ?_
  refine AW.seq ?_
  refine AW.region ?_
  refine AO.xs rfl rfl rfl (XS.field rfl (fo rfl)) ?_
  refine AO.xs rfl rfl rfl (XS.load rfl (on rfl) rfl rfl) ?_
  refine AO.xs rfl rfl rfl (XS.call rfl (by kernel_rfl) rfl (toPointS_c (by omega))) ?_
  refine AO.xs rfl rfl rfl (XS.field rfl (fo rfl)) ?_
  refine AO.store rfl rfl rfl rfl (sz rfl) rfl rfl rfl rfl ?_
  refine AO.nil ?_
  refine AW.seq ?_
  refine AW.region ?_
  refine AO.xs rfl rfl rfl (XS.loadA rfl (ro rfl) (sz rfl) rfl (Nat.le_of_ble_eq_true rfl)) ?_
  refine AO.store rfl rfl rfl rfl (sz rfl) rfl rfl rfl rfl ?_
  refine AO.nil ?_
  refine AW.ret ?_
  exact ⟨_, rfl, rfl⟩


theorem Ky.ext_iff {p q : Ky} : p = q ↔ p.cv = q.cv ∧ p.al = q.al ∧ p.be = q.be ∧ p.ga = q.ga ∧ p.de = q.de ∧ p.ins = q.ins := by
  cases p; cases q; simp

set_option maxRecDepth 100000 in
theorem eqKey_c {p q : Ky} (hx : p.ins.length ≤ 1048576) : AC Try.prog 30 [.ag p.cs, .ag q.cs] (fun d => d = boolD (eqP (p = q))) := by
  refine AC.intro Try.func30 Try.ntmps30 Try.results30 rfl (by simp) (fun w0 T => ?_)
  refine AW.seq ?_
  refine AW.region ?_
  refine AO.box rfl rfl rfl rfl ?_
  refine AO.box rfl rfl rfl rfl ?_
  refine AO.xs rfl rfl rfl (XS.assign rfl) ?_
  refine AO.nil ?_
  refine AW.seq ?_
  refine AW.seq ?_
  refine AW.region ?_
  refine AO.xs rfl rfl rfl (XS.field rfl (fo rfl)) ?_
  refine AO.xs rfl rfl rfl (XS.load rfl (on rfl) rfl rfl) ?_
  refine AO.xs rfl rfl rfl (XS.field rfl (fo rfl)) ?_
  refine AO.xs rfl rfl rfl (XS.load rfl (on rfl) rfl rfl) ?_
  refine AO.xs rfl rfl rfl (XS.int rfl rfl rfl) ?_
  refine AO.nil ?_
  refine AW.cond rfl (fun hb1 => ?_) (fun hb1 => ?_)
  · skip
    replace hb1 := bne_iff_ne.1 hb1
    refine AW.seq ?_
    refine AW.region ?_
    refine AO.xs rfl rfl rfl (XS.assign rfl) ?_
    refine AO.nil ?_
    refine AW.ret ?_
    exact ⟨_, rfl, congrArg boolD (eqP_no (fun e => hb1 (by rw [e]))).symm⟩
  · skip
    replace hb1 := bne_eq_false_iff_eq.1 hb1
    refine AW.skip ?_
    refine AW.seq ?_
    refine AW.seq ?_
    refine AW.region ?_
    refine AO.xs rfl rfl rfl (XS.field rfl (fo rfl)) ?_
    refine AO.xs rfl rfl rfl (XS.loadA rfl (ro rfl) (sz rfl) rfl (Nat.le_of_ble_eq_true rfl)) ?_
    refine AO.xs rfl rfl rfl (XS.field rfl (fo rfl)) ?_
    refine AO.xs rfl rfl rfl (XS.loadA rfl (ro rfl) (sz rfl) rfl (Nat.le_of_ble_eq_true rfl)) ?_
    refine AO.xs rfl rfl rfl (XS.call rfl (by kernel_rfl) rfl (eqPoint_c (p := p.al) (q := q.al))) ?_
    refine AO.xs rfl rfl rfl (XS.not rfl) ?_
    refine AO.nil ?_
    refine AW.cond rfl (fun hb2 => ?_) (fun hb2 => ?_)
    · skip
      replace hb2 := eqP_false.1 (notT hb2)
      refine AW.seq ?_
      refine AW.region ?_
      refine AO.xs rfl rfl rfl (XS.assign rfl) ?_
      refine AO.nil ?_
      refine AW.ret ?_
      exact ⟨_, rfl, congrArg boolD (eqP_no (fun e => hb2 (by rw [e]))).symm⟩
    · skip
      replace hb2 := eqP_iff.1 (notF hb2)
      refine AW.skip ?_
      refine AW.seq ?_
      refine AW.seq ?_
      refine AW.region ?_
      refine AO.xs rfl rfl rfl (XS.field rfl (fo rfl)) ?_
      refine AO.xs rfl rfl rfl (XS.loadA rfl (ro rfl) (sz rfl) rfl (Nat.le_of_ble_eq_true rfl)) ?_
      refine AO.xs rfl rfl rfl (XS.field rfl (fo rfl)) ?_
      refine AO.xs rfl rfl rfl (XS.loadA rfl (ro rfl) (sz rfl) rfl (Nat.le_of_ble_eq_true rfl)) ?_
      refine AO.xs rfl rfl rfl (XS.call rfl (by kernel_rfl) rfl (eqPairPoint_c (p := p.be) (q := q.be))) ?_
      refine AO.xs rfl rfl rfl (XS.not rfl) ?_
      refine AO.nil ?_
      refine AW.cond rfl (fun hb3 => ?_) (fun hb3 => ?_)
      · skip
        replace hb3 := eqP_false.1 (notT hb3)
        refine AW.seq ?_
        refine AW.region ?_
        refine AO.xs rfl rfl rfl (XS.assign rfl) ?_
        refine AO.nil ?_
        refine AW.ret ?_
        exact ⟨_, rfl, congrArg boolD (eqP_no (fun e => hb3 (by rw [e]))).symm⟩
      · skip
        replace hb3 := eqP_iff.1 (notF hb3)
        refine AW.skip ?_
        refine AW.seq ?_
        refine AW.seq ?_
        refine AW.region ?_
        refine AO.xs rfl rfl rfl (XS.field rfl (fo rfl)) ?_
        refine AO.xs rfl rfl rfl (XS.loadA rfl (ro rfl) (sz rfl) rfl (Nat.le_of_ble_eq_true rfl)) ?_
        refine AO.xs rfl rfl rfl (XS.field rfl (fo rfl)) ?_
        refine AO.xs rfl rfl rfl (XS.loadA rfl (ro rfl) (sz rfl) rfl (Nat.le_of_ble_eq_true rfl)) ?_
        refine AO.xs rfl rfl rfl (XS.call rfl (by kernel_rfl) rfl (eqPairPoint_c (p := p.ga) (q := q.ga))) ?_
        refine AO.xs rfl rfl rfl (XS.not rfl) ?_
        refine AO.nil ?_
        refine AW.cond rfl (fun hb4 => ?_) (fun hb4 => ?_)
        · skip
          replace hb4 := eqP_false.1 (notT hb4)
          refine AW.seq ?_
          refine AW.region ?_
          refine AO.xs rfl rfl rfl (XS.assign rfl) ?_
          refine AO.nil ?_
          refine AW.ret ?_
          exact ⟨_, rfl, congrArg boolD (eqP_no (fun e => hb4 (by rw [e]))).symm⟩
        · skip
          replace hb4 := eqP_iff.1 (notF hb4)
          refine AW.skip ?_
          refine AW.seq ?_
          refine AW.seq ?_
          refine AW.region ?_
          refine AO.xs rfl rfl rfl (XS.field rfl (fo rfl)) ?_
          refine AO.xs rfl rfl rfl (XS.loadA rfl (ro rfl) (sz rfl) rfl (Nat.le_of_ble_eq_true rfl)) ?_
          refine AO.xs rfl rfl rfl (XS.field rfl (fo rfl)) ?_
          refine AO.xs rfl rfl rfl (XS.loadA rfl (ro rfl) (sz rfl) rfl (Nat.le_of_ble_eq_true rfl)) ?_
          refine AO.xs rfl rfl rfl (XS.call rfl (by kernel_rfl) rfl (eqPairPoint_c (p := p.de) (q := q.de))) ?_
          refine AO.xs rfl rfl rfl (XS.not rfl) ?_
          refine AO.nil ?_
          refine AW.cond rfl (fun hb5 => ?_) (fun hb5 => ?_)
          · skip
            replace hb5 := eqP_false.1 (notT hb5)
            refine AW.seq ?_
            refine AW.region ?_
            refine AO.xs rfl rfl rfl (XS.assign rfl) ?_
            refine AO.nil ?_
            refine AW.ret ?_
            exact ⟨_, rfl, congrArg boolD (eqP_no (fun e => hb5 (by rw [e]))).symm⟩
          · skip
            replace hb5 := eqP_iff.1 (notF hb5)
            refine AW.skip ?_
            refine AW.seq ?_
            refine AW.seq ?_
            refine AW.region ?_
            refine AO.xs rfl rfl rfl (XS.field rfl (fo rfl)) ?_
            refine AO.xs rfl rfl rfl (XS.load rfl (on rfl) rfl rfl) ?_
            refine AO.xs rfl rfl rfl (XS.field rfl (fo rfl)) ?_
            refine AO.xs rfl rfl rfl (XS.load rfl (on rfl) rfl rfl) ?_
            refine AO.xs rfl rfl rfl (XS.call rfl (by kernel_rfl) rfl (eqPointS_c (by omega))) ?_
            refine AO.xs rfl rfl rfl (XS.not rfl) ?_
            refine AO.nil ?_
            refine AW.cond rfl (fun hb6 => ?_) (fun hb6 => ?_)
            · skip
              replace hb6 := eqP_false.1 (notT hb6)
              refine AW.seq ?_
              refine AW.region ?_
              refine AO.xs rfl rfl rfl (XS.assign rfl) ?_
              refine AO.nil ?_
              refine AW.ret ?_
              exact ⟨_, rfl, congrArg boolD (eqP_no (fun e => hb6 (by rw [e]))).symm⟩
            · skip
              replace hb6 := eqP_iff.1 (notF hb6)
              refine AW.skip ?_
              refine AW.seq ?_
              refine AW.region ?_
              refine AO.xs rfl rfl rfl (XS.assign rfl) ?_
              refine AO.nil ?_
              refine AW.ret ?_
              exact ⟨_, rfl, congrArg boolD (eqP_yes (Ky.ext_iff.2 ⟨hb1, hb2, hb3, hb4, hb5, hb6⟩)).symm⟩

set_option maxRecDepth 100000 in
theorem sameKeyI_c {p q : Ky} (hx : p.ins.length ≤ 1048576) : AC Try.prog 29 [.ag p.cs, .ag q.cs] (fun d => d = boolD (eqP (p = q))) := by
  refine AC.intro Try.func29 Try.ntmps29 Try.results29 rfl (by simp) (fun w0 T => ?_)
  refine AW.seq ?_
  refine AW.region ?_
  refine AO.box rfl rfl rfl rfl ?_
  refine AO.box rfl rfl rfl rfl ?_
  refine AO.xs rfl rfl rfl (XS.assign rfl) ?_
  refine AO.nil ?_
  refine AW.seq ?_
  refine AW.region ?_
  refine AO.xs rfl rfl rfl (XS.field rfl (fo rfl)) ?_
  refine AO.xs rfl rfl rfl (XS.load rfl (on rfl) rfl rfl) ?_
  refine AO.xs rfl rfl rfl (XS.field rfl (fo rfl)) ?_
  refine AO.xs rfl rfl rfl (XS.load rfl (on rfl) rfl rfl) ?_
  refine AO.xs rfl rfl rfl (XS.int rfl rfl rfl) ?_
  refine AO.xs rfl rfl rfl (XS.move rfl) ?_
  refine AO.split 10 rfl (fun hg1 => ?_) (fun hg1 => ?_)
  · skip
    have hg1n := eq_of_beq hg1
    refine AO.gyes rfl rfl rfl rfl rfl rfl hg1 rfl (XS.field rfl (fo rfl)) ?_
    refine AO.gyes rfl rfl rfl rfl rfl rfl hg1 rfl (XS.loadA rfl (ro rfl) (sz rfl) rfl (Nat.le_of_ble_eq_true rfl)) ?_
    refine AO.gyes rfl rfl rfl rfl rfl rfl hg1 rfl (XS.field rfl (fo rfl)) ?_
    refine AO.gyes rfl rfl rfl rfl rfl rfl hg1 rfl (XS.loadA rfl (ro rfl) (sz rfl) rfl (Nat.le_of_ble_eq_true rfl)) ?_
    refine AO.gyes rfl rfl rfl rfl rfl rfl hg1 rfl (XS.eqlS rfl rfl (eqs rfl) rfl rfl) ?_
    refine AO.xs rfl rfl rfl (XS.pickT rfl rfl hg1) ?_
    refine AO.xs rfl rfl rfl (XS.move rfl) ?_
    refine AO.split 17 rfl (fun hg2 => ?_) (fun hg2 => ?_)
    · skip
      have hg2n := eqP_iff.1 hg2
      refine AO.gyes rfl rfl rfl rfl rfl rfl hg2 rfl (XS.field rfl (fo rfl)) ?_
      refine AO.gyes rfl rfl rfl rfl rfl rfl hg2 rfl (XS.loadA rfl (ro rfl) (sz rfl) rfl (Nat.le_of_ble_eq_true rfl)) ?_
      refine AO.gyes rfl rfl rfl rfl rfl rfl hg2 rfl (XS.field rfl (fo rfl)) ?_
      refine AO.gyes rfl rfl rfl rfl rfl rfl hg2 rfl (XS.loadA rfl (ro rfl) (sz rfl) rfl (Nat.le_of_ble_eq_true rfl)) ?_
      refine AO.gyes rfl rfl rfl rfl rfl rfl hg2 rfl (XS.eqlS rfl rfl (eqs rfl) rfl rfl) ?_
      refine AO.xs rfl rfl rfl (XS.pickT rfl rfl hg2) ?_
      refine AO.xs rfl rfl rfl (XS.move rfl) ?_
      refine AO.split 24 rfl (fun hg3 => ?_) (fun hg3 => ?_)
      · skip
        have hg3n := eqP_iff.1 hg3
        refine AO.gyes rfl rfl rfl rfl rfl rfl hg3 rfl (XS.field rfl (fo rfl)) ?_
        refine AO.gyes rfl rfl rfl rfl rfl rfl hg3 rfl (XS.loadA rfl (ro rfl) (sz rfl) rfl (Nat.le_of_ble_eq_true rfl)) ?_
        refine AO.gyes rfl rfl rfl rfl rfl rfl hg3 rfl (XS.field rfl (fo rfl)) ?_
        refine AO.gyes rfl rfl rfl rfl rfl rfl hg3 rfl (XS.loadA rfl (ro rfl) (sz rfl) rfl (Nat.le_of_ble_eq_true rfl)) ?_
        refine AO.gyes rfl rfl rfl rfl rfl rfl hg3 rfl (XS.eqlS rfl rfl (eqs rfl) rfl rfl) ?_
        refine AO.xs rfl rfl rfl (XS.pickT rfl rfl hg3) ?_
        refine AO.xs rfl rfl rfl (XS.move rfl) ?_
        refine AO.split 31 rfl (fun hg4 => ?_) (fun hg4 => ?_)
        · skip
          have hg4n := eqP_iff.1 hg4
          refine AO.gyes rfl rfl rfl rfl rfl rfl hg4 rfl (XS.field rfl (fo rfl)) ?_
          refine AO.gyes rfl rfl rfl rfl rfl rfl hg4 rfl (XS.loadA rfl (ro rfl) (sz rfl) rfl (Nat.le_of_ble_eq_true rfl)) ?_
          refine AO.gyes rfl rfl rfl rfl rfl rfl hg4 rfl (XS.field rfl (fo rfl)) ?_
          refine AO.gyes rfl rfl rfl rfl rfl rfl hg4 rfl (XS.loadA rfl (ro rfl) (sz rfl) rfl (Nat.le_of_ble_eq_true rfl)) ?_
          refine AO.gyes rfl rfl rfl rfl rfl rfl hg4 rfl (XS.eqlS rfl rfl (eqs rfl) rfl rfl) ?_
          refine AO.xs rfl rfl rfl (XS.pickT rfl rfl hg4) ?_
          refine AO.xs rfl rfl rfl (XS.move rfl) ?_
          refine AO.split 38 rfl (fun hg5 => ?_) (fun hg5 => ?_)
          · skip
            have hg5n := eqP_iff.1 hg5
            refine AO.gyes rfl rfl rfl rfl rfl rfl hg5 rfl (XS.field rfl (fo rfl)) ?_
            refine AO.gyes rfl rfl rfl rfl rfl rfl hg5 rfl (XS.load rfl (on rfl) rfl rfl) ?_
            refine AO.gyes rfl rfl rfl rfl rfl rfl hg5 rfl (XS.field rfl (fo rfl)) ?_
            refine AO.gyes rfl rfl rfl rfl rfl rfl hg5 rfl (XS.load rfl (on rfl) rfl rfl) ?_
            refine AO.gyes rfl rfl rfl rfl rfl rfl hg5 rfl (XS.call rfl (by kernel_rfl) rfl (equalPoints_c (by omega))) ?_
            refine AO.xs rfl rfl rfl (XS.pickT rfl rfl hg5) ?_
            refine AO.xs rfl rfl rfl (XS.assign rfl) ?_
            refine AO.nil ?_
            refine AW.ret ?_
            exact ⟨_, rfl, congrArg boolD (eqP_congr ⟨fun h => Ky.ext_iff.2 ⟨hg1n, Pt.cs_inj.1 hg2n, PPt.cs_inj.1 hg3n, PPt.cs_inj.1 hg4n, PPt.cs_inj.1 hg5n, h⟩, fun h => by rw [h]⟩)⟩
          · skip
            have hg5n := eqP_false.1 hg5
            refine AO.gno rfl rfl rfl rfl rfl rfl hg5 (by decide) rfl ?_
            refine AO.gno rfl rfl rfl rfl rfl rfl hg5 (by decide) rfl ?_
            refine AO.gno rfl rfl rfl rfl rfl rfl hg5 (by decide) rfl ?_
            refine AO.gno rfl rfl rfl rfl rfl rfl hg5 (by decide) rfl ?_
            refine AO.gno rfl rfl rfl rfl rfl rfl hg5 (by decide) rfl ?_
            refine AO.xs rfl rfl rfl (XS.pickF rfl rfl hg5) ?_
            refine AO.xs rfl rfl rfl (XS.assign rfl) ?_
            refine AO.nil ?_
            refine AW.ret ?_
            exact ⟨_, rfl, congrArg boolD (eqP_no (fun e => hg5n (by rw [e]))).symm⟩
        · skip
          have hg4n := eqP_false.1 hg4
          refine AO.gno rfl rfl rfl rfl rfl rfl hg4 (by decide) rfl ?_
          refine AO.gno rfl rfl rfl rfl rfl rfl hg4 (by decide) rfl ?_
          refine AO.gno rfl rfl rfl rfl rfl rfl hg4 (by decide) rfl ?_
          refine AO.gno rfl rfl rfl rfl rfl rfl hg4 (by decide) rfl ?_
          refine AO.gno rfl rfl rfl rfl rfl rfl hg4 (by decide) rfl ?_
          refine AO.xs rfl rfl rfl (XS.pickF rfl rfl hg4) ?_
          refine AO.xs rfl rfl rfl (XS.move rfl) ?_
          refine AO.gno rfl rfl rfl rfl rfl rfl rfl (by decide) rfl ?_
          refine AO.gno rfl rfl rfl rfl rfl rfl rfl (by decide) rfl ?_
          refine AO.gno rfl rfl rfl rfl rfl rfl rfl (by decide) rfl ?_
          refine AO.gno rfl rfl rfl rfl rfl rfl rfl (by decide) rfl ?_
          refine AO.gno rfl rfl rfl rfl rfl rfl rfl (by decide) rfl ?_
          refine AO.xs rfl rfl rfl (XS.pickF rfl rfl rfl) ?_
          refine AO.xs rfl rfl rfl (XS.assign rfl) ?_
          refine AO.nil ?_
          refine AW.ret ?_
          exact ⟨_, rfl, congrArg boolD (eqP_no (fun e => hg4n (by rw [e]))).symm⟩
      · skip
        have hg3n := eqP_false.1 hg3
        refine AO.gno rfl rfl rfl rfl rfl rfl hg3 (by decide) rfl ?_
        refine AO.gno rfl rfl rfl rfl rfl rfl hg3 (by decide) rfl ?_
        refine AO.gno rfl rfl rfl rfl rfl rfl hg3 (by decide) rfl ?_
        refine AO.gno rfl rfl rfl rfl rfl rfl hg3 (by decide) rfl ?_
        refine AO.gno rfl rfl rfl rfl rfl rfl hg3 (by decide) rfl ?_
        refine AO.xs rfl rfl rfl (XS.pickF rfl rfl hg3) ?_
        refine AO.xs rfl rfl rfl (XS.move rfl) ?_
        refine AO.gno rfl rfl rfl rfl rfl rfl rfl (by decide) rfl ?_
        refine AO.gno rfl rfl rfl rfl rfl rfl rfl (by decide) rfl ?_
        refine AO.gno rfl rfl rfl rfl rfl rfl rfl (by decide) rfl ?_
        refine AO.gno rfl rfl rfl rfl rfl rfl rfl (by decide) rfl ?_
        refine AO.gno rfl rfl rfl rfl rfl rfl rfl (by decide) rfl ?_
        refine AO.xs rfl rfl rfl (XS.pickF rfl rfl rfl) ?_
        refine AO.xs rfl rfl rfl (XS.move rfl) ?_
        refine AO.gno rfl rfl rfl rfl rfl rfl rfl (by decide) rfl ?_
        refine AO.gno rfl rfl rfl rfl rfl rfl rfl (by decide) rfl ?_
        refine AO.gno rfl rfl rfl rfl rfl rfl rfl (by decide) rfl ?_
        refine AO.gno rfl rfl rfl rfl rfl rfl rfl (by decide) rfl ?_
        refine AO.gno rfl rfl rfl rfl rfl rfl rfl (by decide) rfl ?_
        refine AO.xs rfl rfl rfl (XS.pickF rfl rfl rfl) ?_
        refine AO.xs rfl rfl rfl (XS.assign rfl) ?_
        refine AO.nil ?_
        refine AW.ret ?_
        exact ⟨_, rfl, congrArg boolD (eqP_no (fun e => hg3n (by rw [e]))).symm⟩
    · skip
      have hg2n := eqP_false.1 hg2
      refine AO.gno rfl rfl rfl rfl rfl rfl hg2 (by decide) rfl ?_
      refine AO.gno rfl rfl rfl rfl rfl rfl hg2 (by decide) rfl ?_
      refine AO.gno rfl rfl rfl rfl rfl rfl hg2 (by decide) rfl ?_
      refine AO.gno rfl rfl rfl rfl rfl rfl hg2 (by decide) rfl ?_
      refine AO.gno rfl rfl rfl rfl rfl rfl hg2 (by decide) rfl ?_
      refine AO.xs rfl rfl rfl (XS.pickF rfl rfl hg2) ?_
      refine AO.xs rfl rfl rfl (XS.move rfl) ?_
      refine AO.gno rfl rfl rfl rfl rfl rfl rfl (by decide) rfl ?_
      refine AO.gno rfl rfl rfl rfl rfl rfl rfl (by decide) rfl ?_
      refine AO.gno rfl rfl rfl rfl rfl rfl rfl (by decide) rfl ?_
      refine AO.gno rfl rfl rfl rfl rfl rfl rfl (by decide) rfl ?_
      refine AO.gno rfl rfl rfl rfl rfl rfl rfl (by decide) rfl ?_
      refine AO.xs rfl rfl rfl (XS.pickF rfl rfl rfl) ?_
      refine AO.xs rfl rfl rfl (XS.move rfl) ?_
      refine AO.gno rfl rfl rfl rfl rfl rfl rfl (by decide) rfl ?_
      refine AO.gno rfl rfl rfl rfl rfl rfl rfl (by decide) rfl ?_
      refine AO.gno rfl rfl rfl rfl rfl rfl rfl (by decide) rfl ?_
      refine AO.gno rfl rfl rfl rfl rfl rfl rfl (by decide) rfl ?_
      refine AO.gno rfl rfl rfl rfl rfl rfl rfl (by decide) rfl ?_
      refine AO.xs rfl rfl rfl (XS.pickF rfl rfl rfl) ?_
      refine AO.xs rfl rfl rfl (XS.move rfl) ?_
      refine AO.gno rfl rfl rfl rfl rfl rfl rfl (by decide) rfl ?_
      refine AO.gno rfl rfl rfl rfl rfl rfl rfl (by decide) rfl ?_
      refine AO.gno rfl rfl rfl rfl rfl rfl rfl (by decide) rfl ?_
      refine AO.gno rfl rfl rfl rfl rfl rfl rfl (by decide) rfl ?_
      refine AO.gno rfl rfl rfl rfl rfl rfl rfl (by decide) rfl ?_
      refine AO.xs rfl rfl rfl (XS.pickF rfl rfl rfl) ?_
      refine AO.xs rfl rfl rfl (XS.assign rfl) ?_
      refine AO.nil ?_
      refine AW.ret ?_
      exact ⟨_, rfl, congrArg boolD (eqP_no (fun e => hg2n (by rw [e]))).symm⟩
  · skip
    have hg1n := ne_of_beq_false hg1
    refine AO.gno rfl rfl rfl rfl rfl rfl hg1 (by decide) rfl ?_
    refine AO.gno rfl rfl rfl rfl rfl rfl hg1 (by decide) rfl ?_
    refine AO.gno rfl rfl rfl rfl rfl rfl hg1 (by decide) rfl ?_
    refine AO.gno rfl rfl rfl rfl rfl rfl hg1 (by decide) rfl ?_
    refine AO.gno rfl rfl rfl rfl rfl rfl hg1 (by decide) rfl ?_
    refine AO.xs rfl rfl rfl (XS.pickF rfl rfl hg1) ?_
    refine AO.xs rfl rfl rfl (XS.move rfl) ?_
    refine AO.gno rfl rfl rfl rfl rfl rfl rfl (by decide) rfl ?_
    refine AO.gno rfl rfl rfl rfl rfl rfl rfl (by decide) rfl ?_
    refine AO.gno rfl rfl rfl rfl rfl rfl rfl (by decide) rfl ?_
    refine AO.gno rfl rfl rfl rfl rfl rfl rfl (by decide) rfl ?_
    refine AO.gno rfl rfl rfl rfl rfl rfl rfl (by decide) rfl ?_
    refine AO.xs rfl rfl rfl (XS.pickF rfl rfl rfl) ?_
    refine AO.xs rfl rfl rfl (XS.move rfl) ?_
    refine AO.gno rfl rfl rfl rfl rfl rfl rfl (by decide) rfl ?_
    refine AO.gno rfl rfl rfl rfl rfl rfl rfl (by decide) rfl ?_
    refine AO.gno rfl rfl rfl rfl rfl rfl rfl (by decide) rfl ?_
    refine AO.gno rfl rfl rfl rfl rfl rfl rfl (by decide) rfl ?_
    refine AO.gno rfl rfl rfl rfl rfl rfl rfl (by decide) rfl ?_
    refine AO.xs rfl rfl rfl (XS.pickF rfl rfl rfl) ?_
    refine AO.xs rfl rfl rfl (XS.move rfl) ?_
    refine AO.gno rfl rfl rfl rfl rfl rfl rfl (by decide) rfl ?_
    refine AO.gno rfl rfl rfl rfl rfl rfl rfl (by decide) rfl ?_
    refine AO.gno rfl rfl rfl rfl rfl rfl rfl (by decide) rfl ?_
    refine AO.gno rfl rfl rfl rfl rfl rfl rfl (by decide) rfl ?_
    refine AO.gno rfl rfl rfl rfl rfl rfl rfl (by decide) rfl ?_
    refine AO.xs rfl rfl rfl (XS.pickF rfl rfl rfl) ?_
    refine AO.xs rfl rfl rfl (XS.move rfl) ?_
    refine AO.gno rfl rfl rfl rfl rfl rfl rfl (by decide) rfl ?_
    refine AO.gno rfl rfl rfl rfl rfl rfl rfl (by decide) rfl ?_
    refine AO.gno rfl rfl rfl rfl rfl rfl rfl (by decide) rfl ?_
    refine AO.gno rfl rfl rfl rfl rfl rfl rfl (by decide) rfl ?_
    refine AO.gno rfl rfl rfl rfl rfl rfl rfl (by decide) rfl ?_
    refine AO.xs rfl rfl rfl (XS.pickF rfl rfl rfl) ?_
    refine AO.xs rfl rfl rfl (XS.assign rfl) ?_
    refine AO.nil ?_
    refine AW.ret ?_
    exact ⟨_, rfl, congrArg boolD (eqP_no (fun e => hg1n (by rw [e]))).symm⟩

set_option maxRecDepth 100000 in
theorem sameKeyS_c {p q : Ky} (hx : p.ins.length ≤ 1048576) : AC Try.prog 27 [.ag p.cs, .ag q.cs] (fun d => d = boolD (eqP (p = q))) := by
  refine AC.intro Try.func27 Try.ntmps27 Try.results27 rfl (by simp) (fun w0 T => ?_)
  refine AW.seq ?_
  refine AW.region ?_
  refine AO.box rfl rfl rfl rfl ?_
  refine AO.box rfl rfl rfl rfl ?_
  refine AO.xs rfl rfl rfl (XS.assign rfl) ?_
  refine AO.nil ?_
  refine AW.seq ?_
  refine AW.seq ?_
  refine AW.region ?_
  refine AO.xs rfl rfl rfl (XS.field rfl (fo rfl)) ?_
  refine AO.xs rfl rfl rfl (XS.load rfl (on rfl) rfl rfl) ?_
  refine AO.xs rfl rfl rfl (XS.field rfl (fo rfl)) ?_
  refine AO.xs rfl rfl rfl (XS.load rfl (on rfl) rfl rfl) ?_
  refine AO.xs rfl rfl rfl (XS.int rfl rfl rfl) ?_
  refine AO.xs rfl rfl rfl (XS.move rfl) ?_
  refine AO.split 11 rfl (fun hg1 => ?_) (fun hg1 => ?_)
  · skip
    have hg1n := bne_iff_ne.1 hg1
    refine AO.gno rfl rfl rfl rfl rfl rfl hg1 (by decide) rfl ?_
    refine AO.gno rfl rfl rfl rfl rfl rfl hg1 (by decide) rfl ?_
    refine AO.gno rfl rfl rfl rfl rfl rfl hg1 (by decide) rfl ?_
    refine AO.gno rfl rfl rfl rfl rfl rfl hg1 (by decide) rfl ?_
    refine AO.gno rfl rfl rfl rfl rfl rfl hg1 (by decide) rfl ?_
    refine AO.xs rfl rfl rfl (XS.pickT rfl rfl hg1) ?_
    refine AO.xs rfl rfl rfl (XS.move rfl) ?_
    refine AO.gno rfl rfl rfl rfl rfl rfl rfl (by decide) rfl ?_
    refine AO.gno rfl rfl rfl rfl rfl rfl rfl (by decide) rfl ?_
    refine AO.gno rfl rfl rfl rfl rfl rfl rfl (by decide) rfl ?_
    refine AO.gno rfl rfl rfl rfl rfl rfl rfl (by decide) rfl ?_
    refine AO.gno rfl rfl rfl rfl rfl rfl rfl (by decide) rfl ?_
    refine AO.xs rfl rfl rfl (XS.pickT rfl rfl rfl) ?_
    refine AO.xs rfl rfl rfl (XS.move rfl) ?_
    refine AO.gno rfl rfl rfl rfl rfl rfl rfl (by decide) rfl ?_
    refine AO.gno rfl rfl rfl rfl rfl rfl rfl (by decide) rfl ?_
    refine AO.gno rfl rfl rfl rfl rfl rfl rfl (by decide) rfl ?_
    refine AO.gno rfl rfl rfl rfl rfl rfl rfl (by decide) rfl ?_
    refine AO.gno rfl rfl rfl rfl rfl rfl rfl (by decide) rfl ?_
    refine AO.xs rfl rfl rfl (XS.pickT rfl rfl rfl) ?_
    refine AO.xs rfl rfl rfl (XS.move rfl) ?_
    refine AO.gno rfl rfl rfl rfl rfl rfl rfl (by decide) rfl ?_
    refine AO.gno rfl rfl rfl rfl rfl rfl rfl (by decide) rfl ?_
    refine AO.gno rfl rfl rfl rfl rfl rfl rfl (by decide) rfl ?_
    refine AO.gno rfl rfl rfl rfl rfl rfl rfl (by decide) rfl ?_
    refine AO.gno rfl rfl rfl rfl rfl rfl rfl (by decide) rfl ?_
    refine AO.xs rfl rfl rfl (XS.pickT rfl rfl rfl) ?_
    refine AO.xs rfl rfl rfl (XS.move rfl) ?_
    refine AO.gno rfl rfl rfl rfl rfl rfl rfl (by decide) rfl ?_
    refine AO.gno rfl rfl rfl rfl rfl rfl rfl (by decide) rfl ?_
    refine AO.gno rfl rfl rfl rfl rfl rfl rfl (by decide) rfl ?_
    refine AO.gno rfl rfl rfl rfl rfl rfl rfl (by decide) rfl ?_
    refine AO.gno rfl rfl rfl rfl rfl rfl rfl (by decide) rfl ?_
    refine AO.gno rfl rfl rfl rfl rfl rfl rfl (by decide) rfl ?_
    refine AO.gno rfl rfl rfl rfl rfl rfl rfl (by decide) rfl ?_
    refine AO.xs rfl rfl rfl (XS.pickT rfl rfl rfl) ?_
    refine AO.nil ?_
    refine AW.condT rfl rfl ?_
    refine AW.seq ?_
    refine AW.region ?_
    refine AO.xs rfl rfl rfl (XS.assign rfl) ?_
    refine AO.nil ?_
    refine AW.ret ?_
    exact ⟨_, rfl, congrArg boolD (eqP_no (fun e => hg1n (by rw [e]))).symm⟩
  · skip
    have hg1n := bne_eq_false_iff_eq.1 hg1
    refine AO.gyes rfl rfl rfl rfl rfl rfl hg1 rfl (XS.field rfl (fo rfl)) ?_
    refine AO.gyes rfl rfl rfl rfl rfl rfl hg1 rfl (XS.loadA rfl (ro rfl) (sz rfl) rfl (Nat.le_of_ble_eq_true rfl)) ?_
    refine AO.gyes rfl rfl rfl rfl rfl rfl hg1 rfl (XS.field rfl (fo rfl)) ?_
    refine AO.gyes rfl rfl rfl rfl rfl rfl hg1 rfl (XS.loadA rfl (ro rfl) (sz rfl) rfl (Nat.le_of_ble_eq_true rfl)) ?_
    refine AO.gyes rfl rfl rfl rfl rfl rfl hg1 rfl (XS.neqS rfl rfl (eqs rfl) rfl rfl) ?_
    refine AO.xs rfl rfl rfl (XS.pickF rfl rfl hg1) ?_
    refine AO.xs rfl rfl rfl (XS.move rfl) ?_
    refine AO.split 18 rfl (fun hg2 => ?_) (fun hg2 => ?_)
    · skip
      have hg2n := eqP_iff.1 hg2
      refine AO.gno rfl rfl rfl rfl rfl rfl hg2 (by decide) rfl ?_
      refine AO.gno rfl rfl rfl rfl rfl rfl hg2 (by decide) rfl ?_
      refine AO.gno rfl rfl rfl rfl rfl rfl hg2 (by decide) rfl ?_
      refine AO.gno rfl rfl rfl rfl rfl rfl hg2 (by decide) rfl ?_
      refine AO.gno rfl rfl rfl rfl rfl rfl hg2 (by decide) rfl ?_
      refine AO.xs rfl rfl rfl (XS.pickT rfl rfl hg2) ?_
      refine AO.xs rfl rfl rfl (XS.move rfl) ?_
      refine AO.gno rfl rfl rfl rfl rfl rfl rfl (by decide) rfl ?_
      refine AO.gno rfl rfl rfl rfl rfl rfl rfl (by decide) rfl ?_
      refine AO.gno rfl rfl rfl rfl rfl rfl rfl (by decide) rfl ?_
      refine AO.gno rfl rfl rfl rfl rfl rfl rfl (by decide) rfl ?_
      refine AO.gno rfl rfl rfl rfl rfl rfl rfl (by decide) rfl ?_
      refine AO.xs rfl rfl rfl (XS.pickT rfl rfl rfl) ?_
      refine AO.xs rfl rfl rfl (XS.move rfl) ?_
      refine AO.gno rfl rfl rfl rfl rfl rfl rfl (by decide) rfl ?_
      refine AO.gno rfl rfl rfl rfl rfl rfl rfl (by decide) rfl ?_
      refine AO.gno rfl rfl rfl rfl rfl rfl rfl (by decide) rfl ?_
      refine AO.gno rfl rfl rfl rfl rfl rfl rfl (by decide) rfl ?_
      refine AO.gno rfl rfl rfl rfl rfl rfl rfl (by decide) rfl ?_
      refine AO.xs rfl rfl rfl (XS.pickT rfl rfl rfl) ?_
      refine AO.xs rfl rfl rfl (XS.move rfl) ?_
      refine AO.gno rfl rfl rfl rfl rfl rfl rfl (by decide) rfl ?_
      refine AO.gno rfl rfl rfl rfl rfl rfl rfl (by decide) rfl ?_
      refine AO.gno rfl rfl rfl rfl rfl rfl rfl (by decide) rfl ?_
      refine AO.gno rfl rfl rfl rfl rfl rfl rfl (by decide) rfl ?_
      refine AO.gno rfl rfl rfl rfl rfl rfl rfl (by decide) rfl ?_
      refine AO.gno rfl rfl rfl rfl rfl rfl rfl (by decide) rfl ?_
      refine AO.gno rfl rfl rfl rfl rfl rfl rfl (by decide) rfl ?_
      refine AO.xs rfl rfl rfl (XS.pickT rfl rfl rfl) ?_
      refine AO.nil ?_
      refine AW.condT rfl rfl ?_
      refine AW.seq ?_
      refine AW.region ?_
      refine AO.xs rfl rfl rfl (XS.assign rfl) ?_
      refine AO.nil ?_
      refine AW.ret ?_
      exact ⟨_, rfl, congrArg boolD (eqP_no (fun e => hg2n (by rw [e]))).symm⟩
    · skip
      have hg2n := eqP_false.1 hg2
      refine AO.gyes rfl rfl rfl rfl rfl rfl hg2 rfl (XS.field rfl (fo rfl)) ?_
      refine AO.gyes rfl rfl rfl rfl rfl rfl hg2 rfl (XS.loadA rfl (ro rfl) (sz rfl) rfl (Nat.le_of_ble_eq_true rfl)) ?_
      refine AO.gyes rfl rfl rfl rfl rfl rfl hg2 rfl (XS.field rfl (fo rfl)) ?_
      refine AO.gyes rfl rfl rfl rfl rfl rfl hg2 rfl (XS.loadA rfl (ro rfl) (sz rfl) rfl (Nat.le_of_ble_eq_true rfl)) ?_
      refine AO.gyes rfl rfl rfl rfl rfl rfl hg2 rfl (XS.neqS rfl rfl (eqs rfl) rfl rfl) ?_
      refine AO.xs rfl rfl rfl (XS.pickF rfl rfl hg2) ?_
      refine AO.xs rfl rfl rfl (XS.move rfl) ?_
      refine AO.split 25 rfl (fun hg3 => ?_) (fun hg3 => ?_)
      · skip
        have hg3n := eqP_iff.1 hg3
        refine AO.gno rfl rfl rfl rfl rfl rfl hg3 (by decide) rfl ?_
        refine AO.gno rfl rfl rfl rfl rfl rfl hg3 (by decide) rfl ?_
        refine AO.gno rfl rfl rfl rfl rfl rfl hg3 (by decide) rfl ?_
        refine AO.gno rfl rfl rfl rfl rfl rfl hg3 (by decide) rfl ?_
        refine AO.gno rfl rfl rfl rfl rfl rfl hg3 (by decide) rfl ?_
        refine AO.xs rfl rfl rfl (XS.pickT rfl rfl hg3) ?_
        refine AO.xs rfl rfl rfl (XS.move rfl) ?_
        refine AO.gno rfl rfl rfl rfl rfl rfl rfl (by decide) rfl ?_
        refine AO.gno rfl rfl rfl rfl rfl rfl rfl (by decide) rfl ?_
        refine AO.gno rfl rfl rfl rfl rfl rfl rfl (by decide) rfl ?_
        refine AO.gno rfl rfl rfl rfl rfl rfl rfl (by decide) rfl ?_
        refine AO.gno rfl rfl rfl rfl rfl rfl rfl (by decide) rfl ?_
        refine AO.xs rfl rfl rfl (XS.pickT rfl rfl rfl) ?_
        refine AO.xs rfl rfl rfl (XS.move rfl) ?_
        refine AO.gno rfl rfl rfl rfl rfl rfl rfl (by decide) rfl ?_
        refine AO.gno rfl rfl rfl rfl rfl rfl rfl (by decide) rfl ?_
        refine AO.gno rfl rfl rfl rfl rfl rfl rfl (by decide) rfl ?_
        refine AO.gno rfl rfl rfl rfl rfl rfl rfl (by decide) rfl ?_
        refine AO.gno rfl rfl rfl rfl rfl rfl rfl (by decide) rfl ?_
        refine AO.gno rfl rfl rfl rfl rfl rfl rfl (by decide) rfl ?_
        refine AO.gno rfl rfl rfl rfl rfl rfl rfl (by decide) rfl ?_
        refine AO.xs rfl rfl rfl (XS.pickT rfl rfl rfl) ?_
        refine AO.nil ?_
        refine AW.condT rfl rfl ?_
        refine AW.seq ?_
        refine AW.region ?_
        refine AO.xs rfl rfl rfl (XS.assign rfl) ?_
        refine AO.nil ?_
        refine AW.ret ?_
        exact ⟨_, rfl, congrArg boolD (eqP_no (fun e => hg3n (by rw [e]))).symm⟩
      · skip
        have hg3n := eqP_false.1 hg3
        refine AO.gyes rfl rfl rfl rfl rfl rfl hg3 rfl (XS.field rfl (fo rfl)) ?_
        refine AO.gyes rfl rfl rfl rfl rfl rfl hg3 rfl (XS.loadA rfl (ro rfl) (sz rfl) rfl (Nat.le_of_ble_eq_true rfl)) ?_
        refine AO.gyes rfl rfl rfl rfl rfl rfl hg3 rfl (XS.field rfl (fo rfl)) ?_
        refine AO.gyes rfl rfl rfl rfl rfl rfl hg3 rfl (XS.loadA rfl (ro rfl) (sz rfl) rfl (Nat.le_of_ble_eq_true rfl)) ?_
        refine AO.gyes rfl rfl rfl rfl rfl rfl hg3 rfl (XS.neqS rfl rfl (eqs rfl) rfl rfl) ?_
        refine AO.xs rfl rfl rfl (XS.pickF rfl rfl hg3) ?_
        refine AO.xs rfl rfl rfl (XS.move rfl) ?_
        refine AO.split 32 rfl (fun hg4 => ?_) (fun hg4 => ?_)
        · skip
          have hg4n := eqP_iff.1 hg4
          refine AO.gno rfl rfl rfl rfl rfl rfl hg4 (by decide) rfl ?_
          refine AO.gno rfl rfl rfl rfl rfl rfl hg4 (by decide) rfl ?_
          refine AO.gno rfl rfl rfl rfl rfl rfl hg4 (by decide) rfl ?_
          refine AO.gno rfl rfl rfl rfl rfl rfl hg4 (by decide) rfl ?_
          refine AO.gno rfl rfl rfl rfl rfl rfl hg4 (by decide) rfl ?_
          refine AO.xs rfl rfl rfl (XS.pickT rfl rfl hg4) ?_
          refine AO.xs rfl rfl rfl (XS.move rfl) ?_
          refine AO.gno rfl rfl rfl rfl rfl rfl rfl (by decide) rfl ?_
          refine AO.gno rfl rfl rfl rfl rfl rfl rfl (by decide) rfl ?_
          refine AO.gno rfl rfl rfl rfl rfl rfl rfl (by decide) rfl ?_
          refine AO.gno rfl rfl rfl rfl rfl rfl rfl (by decide) rfl ?_
          refine AO.gno rfl rfl rfl rfl rfl rfl rfl (by decide) rfl ?_
          refine AO.gno rfl rfl rfl rfl rfl rfl rfl (by decide) rfl ?_
          refine AO.gno rfl rfl rfl rfl rfl rfl rfl (by decide) rfl ?_
          refine AO.xs rfl rfl rfl (XS.pickT rfl rfl rfl) ?_
          refine AO.nil ?_
          refine AW.condT rfl rfl ?_
          refine AW.seq ?_
          refine AW.region ?_
          refine AO.xs rfl rfl rfl (XS.assign rfl) ?_
          refine AO.nil ?_
          refine AW.ret ?_
          exact ⟨_, rfl, congrArg boolD (eqP_no (fun e => hg4n (by rw [e]))).symm⟩
        · skip
          have hg4n := eqP_false.1 hg4
          refine AO.gyes rfl rfl rfl rfl rfl rfl hg4 rfl (XS.field rfl (fo rfl)) ?_
          refine AO.gyes rfl rfl rfl rfl rfl rfl hg4 rfl (XS.loadA rfl (ro rfl) (sz rfl) rfl (Nat.le_of_ble_eq_true rfl)) ?_
          refine AO.gyes rfl rfl rfl rfl rfl rfl hg4 rfl (XS.field rfl (fo rfl)) ?_
          refine AO.gyes rfl rfl rfl rfl rfl rfl hg4 rfl (XS.loadA rfl (ro rfl) (sz rfl) rfl (Nat.le_of_ble_eq_true rfl)) ?_
          refine AO.gyes rfl rfl rfl rfl rfl rfl hg4 rfl (XS.neqS rfl rfl (eqs rfl) rfl rfl) ?_
          refine AO.xs rfl rfl rfl (XS.pickF rfl rfl hg4) ?_
          refine AO.xs rfl rfl rfl (XS.move rfl) ?_
          refine AO.split 39 rfl (fun hg5 => ?_) (fun hg5 => ?_)
          · skip
            have hg5n := eqP_iff.1 hg5
            refine AO.gno rfl rfl rfl rfl rfl rfl hg5 (by decide) rfl ?_
            refine AO.gno rfl rfl rfl rfl rfl rfl hg5 (by decide) rfl ?_
            refine AO.gno rfl rfl rfl rfl rfl rfl hg5 (by decide) rfl ?_
            refine AO.gno rfl rfl rfl rfl rfl rfl hg5 (by decide) rfl ?_
            refine AO.gno rfl rfl rfl rfl rfl rfl hg5 (by decide) rfl ?_
            refine AO.gno rfl rfl rfl rfl rfl rfl hg5 (by decide) rfl ?_
            refine AO.gno rfl rfl rfl rfl rfl rfl hg5 (by decide) rfl ?_
            refine AO.xs rfl rfl rfl (XS.pickT rfl rfl hg5) ?_
            refine AO.nil ?_
            refine AW.condT rfl rfl ?_
            refine AW.seq ?_
            refine AW.region ?_
            refine AO.xs rfl rfl rfl (XS.assign rfl) ?_
            refine AO.nil ?_
            refine AW.ret ?_
            exact ⟨_, rfl, congrArg boolD (eqP_no (fun e => hg5n (by rw [e]))).symm⟩
          · skip
            have hg5n := eqP_false.1 hg5
            refine AO.gyes rfl rfl rfl rfl rfl rfl hg5 rfl (XS.field rfl (fo rfl)) ?_
            refine AO.gyes rfl rfl rfl rfl rfl rfl hg5 rfl (XS.load rfl (on rfl) rfl rfl) ?_
            refine AO.gyes rfl rfl rfl rfl rfl rfl hg5 rfl (XS.lenM rfl (el rfl)) ?_
            refine AO.gyes rfl rfl rfl rfl rfl rfl hg5 rfl (XS.field rfl (fo rfl)) ?_
            refine AO.gyes rfl rfl rfl rfl rfl rfl hg5 rfl (XS.load rfl (on rfl) rfl rfl) ?_
            refine AO.gyes rfl rfl rfl rfl rfl rfl hg5 rfl (XS.lenM rfl (el rfl)) ?_
            refine AO.gyes rfl rfl rfl rfl rfl rfl hg5 rfl (XS.int rfl rfl rfl) ?_
            refine AO.xs rfl rfl rfl (XS.pickF rfl rfl hg5) ?_
            refine AO.nil ?_
            refine AW.cond rfl (fun hb6 => ?_) (fun hb6 => ?_)
            · skip
              replace hb6 := bne_iff_ne.1 hb6
              refine AW.seq ?_
              refine AW.region ?_
              refine AO.xs rfl rfl rfl (XS.assign rfl) ?_
              refine AO.nil ?_
              refine AW.ret ?_
              exact ⟨_, rfl, congrArg boolD (eqP_no (fun e => hb6 (by rw [e]))).symm⟩
            · skip
              replace hb6 := bne_eq_false_iff_eq.1 hb6
              refine AW.skip ?_
              refine AW.seq ?_
              refine AW.seq ?_
              refine AW.region ?_
              refine AO.xs rfl rfl rfl (XS.assign rfl) ?_
              refine AO.nil ?_
              refine AW.block ?_
              refine AW.loop [2, 3] (fun i => [(5, .d (intD ((i : Nat) : Int)))]) (fun _ => _) (fun i => i ≤ p.ins.length ∧ p.ins.take i = q.ins.take i) (fun i => p.ins.length - i) (0) ⟨Nat.zero_le _, by simp⟩ ⟨rfl, trivial⟩ ⟨⟨_, rfl, rfl⟩, ⟨_, rfl, rfl⟩, trivial⟩ rfl ?_
              intro i ⟨hi, hk⟩
              refine AW.seq ?_
              refine AW.seq ?_
              refine AW.region ?_
              refine AO.xs rfl rfl rfl (XS.move rfl) ?_
              refine AO.xs rfl rfl rfl (XS.field rfl (fo rfl)) ?_
              refine AO.xs rfl rfl rfl (XS.load rfl (on rfl) rfl rfl) ?_
              refine AO.xs rfl rfl rfl (XS.lenM rfl (el rfl)) ?_
              refine AO.xs rfl rfl rfl (XS.int rfl rfl rfl) ?_
              refine AO.nil ?_
              refine AW.cond rfl (fun hb7 => ?_) (fun hb7 => ?_)
              · skip
                replace hb7 := of_decide_eq_true hb7
                refine AW.skip ?_
                refine AW.seq ?_
                refine AW.block ?_
                refine AW.seq ?_
                refine AW.drawn mix ?_
                refine DC.cons rfl rfl rfl (XS.field rfl (fo rfl)) ?_
                refine DC.cons rfl rfl rfl (XS.load rfl (on rfl) rfl rfl) ?_
                refine DC.cons rfl rfl rfl (XS.move rfl) ?_
                refine DC.cons rfl rfl rfl (XS.indexM rfl rfl (el rfl) (by omega) rfl) ?_
                refine DC.cons rfl rfl rfl (XS.loadEA rfl (ro rfl) (sz rfl) (Nat.le_of_ble_eq_true rfl)) ?_
                refine DC.cons rfl rfl rfl (XS.field rfl (fo rfl)) ?_
                refine DC.cons rfl rfl rfl (XS.load rfl (on rfl) rfl rfl) ?_
                refine DC.cons rfl rfl rfl (XS.move rfl) ?_
                refine DC.cons rfl rfl rfl (XS.indexM rfl rfl (el rfl) (by omega) rfl) ?_
                refine DC.cons rfl rfl rfl (XS.loadEA rfl (ro rfl) (sz rfl) (Nat.le_of_ble_eq_true rfl)) ?_
                refine DC.cons rfl rfl rfl (XS.neqS rfl rfl (eqs rfl) rfl rfl) ?_
                refine DC.done (by kernel_rfl) ?_
                refine AO.nil ?_
                refine AW.cond rfl (fun hb8 => ?_) (fun hb8 => ?_)
                · skip
                  replace hb8 := eqP_iff.1 hb8
                  refine AW.seq ?_
                  refine AW.region ?_
                  refine AO.xs rfl rfl rfl (XS.assign rfl) ?_
                  refine AO.nil ?_
                  refine AW.ret ?_
                  exact ⟨_, rfl, congrArg boolD (eqP_no (fun e => hb8 (by subst e; rfl))).symm⟩
                · skip
                  replace hb8 := eqP_false.1 hb8
                  refine AW.skip ?_
                  refine AW.region ?_
                  refine AO.xs rfl rfl rfl (XS.move rfl) ?_
                  refine AO.xs rfl rfl rfl (XS.addI rfl rfl (by omega)) ?_
                  refine AO.xs rfl rfl rfl (XS.assign rfl) ?_
                  refine AO.nil ?_
                  exact ⟨i + 1, ⟨by omega, take_next (by omega) (by omega) hk (Pt.cs_inj.1 (Classical.not_not.1 hb8))⟩, (by dsimp only; omega), ⟨rfl, trivial⟩, ⟨⟨_, rfl, rfl⟩, ⟨_, rfl, rfl⟩, trivial⟩, rfl⟩
              · skip
                replace hb7 := of_decide_eq_false hb7
                refine AW.exit ?_
                refine AW.seq ?_
                refine AW.region ?_
                refine AO.xs rfl rfl rfl (XS.assign rfl) ?_
                refine AO.nil ?_
                refine AW.ret ?_
                obtain rfl : i = p.ins.length := by omega
                exact ⟨_, rfl, congrArg boolD (eqP_yes (Ky.ext_iff.2 ⟨hg1n, Pt.cs_inj.1 (Classical.not_not.1 hg2n), PPt.cs_inj.1 (Classical.not_not.1 hg3n), PPt.cs_inj.1 (Classical.not_not.1 hg4n), PPt.cs_inj.1 (Classical.not_not.1 hg5n), take_all hk (by omega)⟩)).symm⟩

set_option maxRecDepth 100000 in
theorem fnSameKey_c {p q : Ky} (hp : p.ok) (hq : q.ok) : AC Try.prog 6 [.ag p.cs, .ag q.cs] (fun d => d = .im (.bool true)) := by
  refine AC.intro Try.func6 Try.ntmps6 Try.results6 rfl (by simp) (fun w0 T => ?_)
  refine AW.seq ?_
  refine AW.region ?_
  refine AO.box rfl rfl rfl rfl ?_
  refine AO.box rfl rfl rfl rfl ?_
  refine AO.xs rfl rfl rfl (XS.assign rfl) ?_
  refine AO.nil ?_
  refine AW.seq ?_
  refine AW.region ?_
  refine AO.xs rfl rfl rfl (XS.assign rfl) ?_
  refine AO.nil ?_
  refine AW.seq ?_
  refine AW.region ?_
  refine AO.xs rfl rfl rfl (XS.loadA rfl (ro rfl) (sz rfl) rfl (Nat.le_of_ble_eq_true rfl)) ?_
  refine AO.xs rfl rfl rfl (XS.move rfl) ?_
  refine AO.xs rfl rfl rfl (XS.call rfl (by kernel_rfl) rfl (szKey_c (by omega) hp)) ?_
  refine AO.xs rfl rfl rfl (XS.assign rfl) ?_
  refine AO.nil ?_
  refine AW.seq ?_
  refine AW.seq ?_
  refine AW.region ?_
  refine AO.xs rfl rfl rfl (XS.move rfl) ?_
  refine AO.xs rfl rfl rfl (XS.int rfl rfl rfl) ?_
  refine AO.nil ?_
  refine AW.cond rfl (fun hb1 => ?_) (fun hb1 => ?_)
  · skip
    replace hb1 := of_decide_eq_true hb1
    refine AW.seq ?_
    refine AW.region ?_
    refine AO.xs rfl rfl rfl (XS.assign rfl) ?_
    refine AO.nil ?_
    refine AW.ret ?_
    exact ⟨_, rfl, rfl⟩
  · skip
    replace hb1 := of_decide_eq_false hb1
    have k1 := left_ge hb1
    have k2 : p.ins.length ≤ p.n := by unfold Ky.n ptsN; omega
    refine AW.skip ?_
    refine AW.seq ?_
    refine AW.region ?_
    refine AO.xs rfl rfl rfl (XS.loadA rfl (ro rfl) (sz rfl) rfl (Nat.le_of_ble_eq_true rfl)) ?_
    refine AO.xs rfl rfl rfl (XS.move rfl) ?_
    refine AO.xs rfl rfl rfl (XS.call rfl (by kernel_rfl) rfl (szKey_c (by omega) hq)) ?_
    refine AO.xs rfl rfl rfl (XS.assign rfl) ?_
    refine AO.nil ?_
    refine AW.seq ?_
    refine AW.seq ?_
    refine AW.region ?_
    refine AO.xs rfl rfl rfl (XS.move rfl) ?_
    refine AO.xs rfl rfl rfl (XS.int rfl rfl rfl) ?_
    refine AO.nil ?_
    refine AW.cond rfl (fun hb2 => ?_) (fun hb2 => ?_)
    · skip
      replace hb2 := of_decide_eq_true hb2
      refine AW.seq ?_
      refine AW.region ?_
      refine AO.xs rfl rfl rfl (XS.assign rfl) ?_
      refine AO.nil ?_
      refine AW.ret ?_
      exact ⟨_, rfl, rfl⟩
    · skip
      replace hb2 := of_decide_eq_false hb2
      have k3 := left_ge hb2
      have k4 : q.ins.length ≤ q.n := by unfold Ky.n ptsN; omega
      refine AW.skip ?_
      refine AW.seq ?_
      refine AW.drawn mix ?_
      refine DC.cons rfl rfl rfl (XS.loadA rfl (ro rfl) (sz rfl) rfl (Nat.le_of_ble_eq_true rfl)) ?_
      refine DC.cons rfl rfl rfl (XS.call rfl (by kernel_rfl) rfl (toKey_c (by omega))) ?_
      refine DC.cons rfl rfl rfl (XS.loadA rfl (ro rfl) (sz rfl) rfl (Nat.le_of_ble_eq_true rfl)) ?_
      refine DC.cons rfl rfl rfl (XS.call rfl (by kernel_rfl) rfl (toKey_c (by omega))) ?_
      refine DC.cons rfl rfl rfl (XS.call rfl (by kernel_rfl) rfl (sameKeyS_c (by omega))) ?_
      refine DC.cons rfl rfl rfl (XS.assign rfl) ?_
      refine DC.done (by kernel_rfl) ?_
      refine AO.nil ?_
      refine AW.seq ?_
      refine AW.region ?_
      refine AO.xs rfl rfl rfl (XS.loadA rfl (ro rfl) (sz rfl) rfl (Nat.le_of_ble_eq_true rfl)) ?_
      refine AO.xs rfl rfl rfl (XS.call rfl (by kernel_rfl) rfl (toKey_c (by omega))) ?_
      refine AO.alloc rfl rfl (ze rfl) ?_
      refine AO.store rfl rfl rfl rfl (sz rfl) rfl rfl rfl rfl ?_
      refine AO.nil ?_
      refine AW.seq ?_
      refine AW.region ?_
      refine AO.xs rfl rfl rfl (XS.loadA rfl (ro rfl) (sz rfl) rfl (Nat.le_of_ble_eq_true rfl)) ?_
      refine AO.xs rfl rfl rfl (XS.call rfl (by kernel_rfl) rfl (toKey_c (by omega))) ?_
      refine AO.alloc rfl rfl (ze rfl) ?_
      refine AO.store rfl rfl rfl rfl (sz rfl) rfl rfl rfl rfl ?_
      refine AO.nil ?_
      refine AW.seq ?_
      refine AW.region ?_
      refine AO.xs rfl rfl rfl (XS.loadA rfl (ro rfl) (sz rfl) rfl (Nat.le_of_ble_eq_true rfl)) ?_
      refine AO.xs rfl rfl rfl (XS.loadA rfl (ro rfl) (sz rfl) rfl (Nat.le_of_ble_eq_true rfl)) ?_
      refine AO.xs rfl rfl rfl (XS.call rfl (by kernel_rfl) rfl (sameKeyI_c (by omega))) ?_
      refine AO.xs rfl rfl rfl (XS.assign rfl) ?_
      refine AO.nil ?_
      refine AW.seq ?_
      refine AW.seq ?_
      refine AW.region ?_
      refine AO.xs rfl rfl rfl (XS.move rfl) ?_
      refine AO.xs rfl rfl rfl (XS.move rfl) ?_
      refine AO.xs rfl rfl rfl (XS.boolNe rfl rfl (bo rfl)) ?_
      refine AO.nil ?_
      refine AW.cond rfl (fun hb3 => ?_) (fun hb3 => ?_)
      · skip
        replace hb3 := bne_iff_ne.1 hb3
        exact absurd rfl hb3
      · skip
        replace hb3 := bne_eq_false_iff_eq.1 hb3
        refine AW.skip ?_
        refine AW.seq ?_
        refine AW.seq ?_
        refine AW.drawn mix ?_
        refine DC.cons rfl rfl rfl (XS.loadA rfl (ro rfl) (sz rfl) rfl (Nat.le_of_ble_eq_true rfl)) ?_
        refine DC.cons rfl rfl rfl (XS.loadA rfl (ro rfl) (sz rfl) rfl (Nat.le_of_ble_eq_true rfl)) ?_
        refine DC.cons rfl rfl rfl (XS.call rfl (by kernel_rfl) rfl (toKey_c (by omega))) ?_
        refine DC.cons rfl rfl rfl (XS.call rfl (by kernel_rfl) rfl (eqKey_c (by omega))) ?_
        refine DC.cons rfl rfl rfl (XS.not rfl) ?_
        refine DC.done (by kernel_rfl) ?_
        refine AO.nil ?_
        refine AW.cond rfl (fun hb4 => ?_) (fun hb4 => ?_)
        · skip
          replace hb4 := eqP_false.1 (notT hb4)
          exact absurd rfl hb4
        · skip
          replace hb4 := eqP_iff.1 (notF hb4)
          refine AW.skip ?_
          refine AW.seq ?_
          refine AW.seq ?_
          refine AW.drawn mix ?_
          refine DC.cons rfl rfl rfl (XS.loadA rfl (ro rfl) (sz rfl) rfl (Nat.le_of_ble_eq_true rfl)) ?_
          refine DC.cons rfl rfl rfl (XS.loadA rfl (ro rfl) (sz rfl) rfl (Nat.le_of_ble_eq_true rfl)) ?_
          refine DC.cons rfl rfl rfl (XS.call rfl (by kernel_rfl) rfl (toKey_c (by omega))) ?_
          refine DC.cons rfl rfl rfl (XS.call rfl (by kernel_rfl) rfl (eqKey_c (by omega))) ?_
          refine DC.cons rfl rfl rfl (XS.not rfl) ?_
          refine DC.done (by kernel_rfl) ?_
          refine AO.nil ?_
          refine AW.cond rfl (fun hb5 => ?_) (fun hb5 => ?_)
          · skip
            replace hb5 := eqP_false.1 (notT hb5)
            exact absurd rfl hb5
          · skip
            replace hb5 := eqP_iff.1 (notF hb5)
            refine AW.skip ?_
            refine AW.seq ?_
            refine AW.region ?_
            refine AO.xs rfl rfl rfl (XS.assign rfl) ?_
            refine AO.nil ?_
            refine AW.ret ?_
            exact ⟨_, rfl, rfl⟩


theorem ok_pts {d : Dv} (h : Ok (.sl [.bool, .str, .str]) d) : ∃ ps : List Pt, d = ptsD ps ∧ ps.length ≤ maxLen ∧ ∀ p ∈ ps, p.ok :=
  ok_sl (f := Pt.cs) (P := Pt.ok) h (fun x hx => by
    obtain ⟨d1, e1, rfl, h1, k1⟩ := oks_cons hx
    obtain ⟨d2, e2, rfl, h2, k2⟩ := oks_cons k1
    obtain ⟨d3, e3, rfl, h3, k3⟩ := oks_cons k2
    obtain rfl := oks_nil k3
    obtain ⟨z, rfl⟩ := ok_bool h1
    obtain ⟨u, rfl, hu⟩ := ok_str h2
    obtain ⟨v, rfl, hv⟩ := ok_str h3
    exact ⟨⟨z, u, v⟩, rfl, hu, hv⟩)

end Go.Proofs.Ytnepbbhcbehilaa.C
