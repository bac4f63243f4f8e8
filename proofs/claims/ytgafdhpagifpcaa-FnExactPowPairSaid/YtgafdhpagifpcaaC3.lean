/-
  OWN WORK, printed by wip/tools/gen.py out of the translation and of the contracts in wip/specs.
-/
import Derived.Test.YtgafdhpagifpcaaC2
import Derived.Test.YtgafdhpagifpcaaAvR
namespace Go.Proofs.Ytgafdhpagifpcaa.C
open Go Go.RowKit Go.Proofs.Ytgafdhpagifpcaa.Av Go.Proofs.Ytgafdhpagifpcaa.Ty Go.Proofs.Ytgafdhpagifpcaa.Num
set_option linter.unusedVariables false


theorem Pr.cs_inj {p q : Pr} : p.cs = q.cs ↔ p = q := by
  cases p; cases q; simp [Pr.cs, strD]
theorem Pt.cs_inj {p q : Pt} : p.cs = q.cs ↔ p = q := by
  cases p; cases q; simp [Pt.cs, strD, boolD]
theorem PPt.cs_inj {p q : PPt} : p.cs = q.cs ↔ p = q := by
  obtain ⟨_, ⟨_, _⟩, ⟨_, _⟩⟩ := p
  obtain ⟨_, ⟨_, _⟩, ⟨_, _⟩⟩ := q
  simp [PPt.cs, strD, boolD, and_assoc]
structure Ky where
  cv : Int
  al : Pt
  be : PPt
  ga : PPt
  de : PPt
  ins : List Pt
def ptsD (l : List Pt) : Dv := .sl (l.map Pt.cs)
def Ky.cs (k : Ky) : List Dv := [intD k.cv, boolD k.al.z, strD k.al.x, strD k.al.y, boolD k.be.z, strD k.be.x.a, strD k.be.x.b, strD k.be.y.a, strD k.be.y.b,
  boolD k.ga.z, strD k.ga.x.a, strD k.ga.x.b, strD k.ga.y.a, strD k.ga.y.b, boolD k.de.z, strD k.de.x.a, strD k.de.x.b, strD k.de.y.a, strD k.de.y.b, ptsD k.ins]
def ptsN (l : List Pt) : Nat := l.length + (l.map Pt.n).sum
def Ky.n (k : Ky) : Nat := k.al.n + k.be.n + k.ga.n + k.de.n + ptsN k.ins
def Ky.ok (k : Ky) : Prop := k.al.ok ∧ k.be.ok ∧ k.ga.ok ∧ k.de.ok ∧ k.ins.length ≤ maxLen ∧ ∀ p ∈ k.ins, p.ok
theorem sum_succ {α : Type} {f : α → Nat} {l : List α} {i : Nat} (h : i < l.length) : ((l.take (i + 1)).map f).sum = ((l.take i).map f).sum + f l[i] := by
  rw [List.take_succ_eq_append_getElem h, List.map_append, List.sum_append]
  simp
theorem sum_le {α : Type} (f : α → Nat) (l : List α) (i : Nat) : ((l.take i).map f).sum ≤ (l.map f).sum := by
  conv => rhs; rw [← List.take_append_drop i l]
  rw [List.map_append, List.sum_append]
  omega
theorem take_all {α : Type} {l m : List α} (h : l.take l.length = m.take l.length) (hm : m.length ≤ l.length) : l = m := by
  rw [List.take_length, List.take_of_length_le hm] at h
  exact h
theorem take_next {α : Type} {l m : List α} {i : Nat} (hl : i < l.length) (hm : i < m.length) (h : l.take i = m.take i) (he : l[i] = m[i]) : l.take (i + 1) = m.take (i + 1) := by
  rw [List.take_succ_eq_append_getElem hl, List.take_succ_eq_append_getElem hm, h, he]

set_option maxRecDepth 100000 in
theorem eqPair_c {p q : Pr} : AC Try.prog 18 [.ag p.cs, .ag q.cs] (fun d => d = boolD (eqP (p = q))) := by
  refine AC.intro Try.func18 Try.ntmps18 Try.results18 rfl (by simp) (fun w0 T => ?_)
  refine AW.seq ?_
  refine AW.region ?_
  refine AO.box rfl rfl rfl rfl ?_
  refine AO.box rfl rfl rfl rfl ?_
  refine AO.xs rfl rfl rfl (XS.assign rfl) ?_
  refine AO.nil ?_
  refine AW.seq ?_
  refine AW.seq ?_
  refine AW.region ?_
  refine AO.xs rfl rfl rfl (XS.field rfl (fo rfl)) ?_
  refine AO.xs rfl rfl rfl (XS.load rfl (on rfl) rfl rfl) ?_
  refine AO.xs rfl rfl rfl (XS.field rfl (fo rfl)) ?_
  refine AO.xs rfl rfl rfl (XS.load rfl (on rfl) rfl rfl) ?_
  refine AO.xs rfl rfl rfl (XS.strNe rfl rfl) ?_
  refine AO.nil ?_
  refine AW.cond rfl (fun hb1 => ?_) (fun hb1 => ?_)
  · skip
    replace hb1 := eqP_iff.1 hb1
    refine AW.seq ?_
    refine AW.region ?_
    refine AO.xs rfl rfl rfl (XS.assign rfl) ?_
    refine AO.nil ?_
    refine AW.ret ?_
    exact ⟨_, rfl, congrArg boolD (eqP_no (fun e => hb1 (by rw [e]))).symm⟩
  · skip
    replace hb1 := eqP_false.1 hb1
    refine AW.skip ?_
    refine AW.seq ?_
    refine AW.seq ?_
    refine AW.region ?_
    refine AO.xs rfl rfl rfl (XS.field rfl (fo rfl)) ?_
    refine AO.xs rfl rfl rfl (XS.load rfl (on rfl) rfl rfl) ?_
    refine AO.xs rfl rfl rfl (XS.field rfl (fo rfl)) ?_
    refine AO.xs rfl rfl rfl (XS.load rfl (on rfl) rfl rfl) ?_
    refine AO.xs rfl rfl rfl (XS.strNe rfl rfl) ?_
    refine AO.nil ?_
    refine AW.cond rfl (fun hb2 => ?_) (fun hb2 => ?_)
    · skip
      replace hb2 := eqP_iff.1 hb2
      refine AW.seq ?_
      refine AW.region ?_
      refine AO.xs rfl rfl rfl (XS.assign rfl) ?_
      refine AO.nil ?_
      refine AW.ret ?_
      exact ⟨_, rfl, congrArg boolD (eqP_no (fun e => hb2 (by rw [e]))).symm⟩
    · skip
      replace hb2 := eqP_false.1 hb2
      refine AW.skip ?_
      refine AW.seq ?_
      refine AW.region ?_
      refine AO.xs rfl rfl rfl (XS.assign rfl) ?_
      refine AO.nil ?_
      refine AW.ret ?_
      exact ⟨_, rfl, congrArg boolD (eqP_yes (Pr.cs_inj.1 (by simp only [Pr.cs, Classical.not_not.1 hb1, Classical.not_not.1 hb2]))).symm⟩


theorem Ky.ext_iff {p q : Ky} : p = q ↔ p.cv = q.cv ∧ p.al = q.al ∧ p.be = q.be ∧ p.ga = q.ga ∧ p.de = q.de ∧ p.ins = q.ins := by
  cases p; cases q; simp


theorem ok_pts {d : Dv} (h : Ok (.sl [.bool, .str, .str]) d) : ∃ ps : List Pt, d = ptsD ps ∧ ps.length ≤ maxLen ∧ ∀ p ∈ ps, p.ok :=
  ok_sl (f := Pt.cs) (P := Pt.ok) h (fun x hx => by
    obtain ⟨d1, e1, rfl, h1, k1⟩ := oks_cons hx
    obtain ⟨d2, e2, rfl, h2, k2⟩ := oks_cons k1
    obtain ⟨d3, e3, rfl, h3, k3⟩ := oks_cons k2
    obtain rfl := oks_nil k3
    obtain ⟨z, rfl⟩ := ok_bool h1
    obtain ⟨u, rfl, hu⟩ := ok_str h2
    obtain ⟨v, rfl, hv⟩ := ok_str h3
    exact ⟨⟨z, u, v⟩, rfl, hu, hv⟩)

end Go.Proofs.Ytgafdhpagifpcaa.C
