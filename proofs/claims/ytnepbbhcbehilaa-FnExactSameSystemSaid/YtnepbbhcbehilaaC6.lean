/-
  OWN WORK, printed by wip/tools/gen.py out of the translation and of the contracts in wip/specs.
-/
import Derived.Test.YtnepbbhcbehilaaC5
namespace Go.Proofs.Ytnepbbhcbehilaa.C
open Go Go.RowKit Go.Proofs.Ytnepbbhcbehilaa.Av Go.Proofs.Ytnepbbhcbehilaa.Ty
set_option linter.unusedVariables false

set_option maxRecDepth 100000 in
theorem equalInts_c {xs ys : List Int} (hx : xs.length ≤ 1048576) : AC Try.prog 90 [intsD xs, intsD ys] (fun d => d = boolD (eqP (xs = ys))) := by
  refine AC.intro Try.func90 Try.ntmps90 Try.results90 rfl (by simp) (fun w0 T => ?_)
  refine AW.seq ?_
  refine AW.region ?_
  refine AO.xs rfl rfl rfl (XS.assign rfl) ?_
  refine AO.nil ?_
  refine AW.seq ?_
  refine AW.seq ?_
  refine AW.region ?_
  refine AO.xs rfl rfl rfl (XS.move rfl) ?_
  refine AO.xs rfl rfl rfl (XS.lenM rfl (el rfl)) ?_
  refine AO.xs rfl rfl rfl (XS.move rfl) ?_
  refine AO.xs rfl rfl rfl (XS.lenM rfl (el rfl)) ?_
  refine AO.xs rfl rfl rfl (XS.int rfl rfl rfl) ?_
  refine AO.nil ?_
  refine AW.cond rfl (fun hb1 => ?_) (fun hb1 => ?_)
  · skip
    replace hb1 := bne_iff_ne.1 hb1
    refine AW.seq ?_
    refine AW.region ?_
    refine AO.xs rfl rfl rfl (XS.assign rfl) ?_
    refine AO.nil ?_
    refine AW.ret ?_
    exact ⟨_, rfl, congrArg boolD (eqP_no (fun e => hb1 (by rw [e]))).symm⟩
  · skip
    replace hb1 := bne_eq_false_iff_eq.1 hb1
    refine AW.skip ?_
    refine AW.seq ?_
    refine AW.seq ?_
    refine AW.region ?_
    refine AO.xs rfl rfl rfl (XS.move rfl) ?_
    refine AO.xs rfl rfl rfl (XS.lenM rfl (el rfl)) ?_
    refine AO.xs rfl rfl rfl (XS.move rfl) ?_
    refine AO.nil ?_
    refine AW.block ?_
    refine AW.loop [0, 1, 12] (fun i => [(13, .d (intD ((i : Nat) : Int)))]) (fun _ => _) (fun i => i ≤ xs.length ∧ xs.take i = ys.take i) (fun i => xs.length - i) (0) ⟨Nat.zero_le _, by simp⟩ ⟨rfl, trivial⟩ ⟨⟨_, rfl, rfl⟩, ⟨_, rfl, rfl⟩, ⟨_, rfl, rfl⟩, trivial⟩ rfl ?_
    intro i ⟨hi, hk⟩
    refine AW.seq ?_
    refine AW.region ?_
    refine AO.xs rfl rfl rfl (XS.int rfl rfl rfl) ?_
    refine AO.nil ?_
    refine AW.seq ?_
    refine AW.cond rfl (fun hb2 => ?_) (fun hb2 => ?_)
    · skip
      replace hb2 := of_decide_eq_true hb2
      refine AW.skip ?_
      refine AW.seq ?_
      refine AW.block ?_
      refine AW.seq ?_
      refine AW.region ?_
      refine AO.xs rfl rfl rfl (XS.move rfl) ?_
      refine AO.xs rfl rfl rfl (XS.assign rfl) ?_
      refine AO.nil ?_
      refine AW.seq ?_
      refine AW.drawn mix ?_
      refine DC.cons rfl rfl rfl (XS.move rfl) ?_
      refine DC.cons rfl rfl rfl (XS.move rfl) ?_
      refine DC.cons rfl rfl rfl (XS.indexM rfl rfl (el rfl) (by omega) rfl) ?_
      refine DC.cons rfl rfl rfl (XS.loadE rfl (on rfl) rfl) ?_
      refine DC.cons rfl rfl rfl (XS.move rfl) ?_
      refine DC.cons rfl rfl rfl (XS.move rfl) ?_
      refine DC.cons rfl rfl rfl (XS.indexM rfl rfl (el rfl) (by omega) rfl) ?_
      refine DC.cons rfl rfl rfl (XS.loadE rfl (on rfl) rfl) ?_
      refine DC.cons rfl rfl rfl (XS.int rfl rfl rfl) ?_
      refine DC.done (by kernel_rfl) ?_
      refine AO.nil ?_
      refine AW.cond rfl (fun hb3 => ?_) (fun hb3 => ?_)
      · skip
        replace hb3 := bne_iff_ne.1 hb3
        refine AW.seq ?_
        refine AW.region ?_
        refine AO.xs rfl rfl rfl (XS.assign rfl) ?_
        refine AO.nil ?_
        refine AW.ret ?_
        exact ⟨_, rfl, congrArg boolD (eqP_no (fun e => hb3 (by subst e; rfl))).symm⟩
      · skip
        replace hb3 := bne_eq_false_iff_eq.1 hb3
        refine AW.skip ?_
        refine AW.region ?_
        refine AO.xs rfl rfl rfl (XS.addI rfl rfl (by omega)) ?_
        refine AO.xs rfl rfl rfl (XS.move rfl) ?_
        refine AO.nil ?_
        exact ⟨i + 1, ⟨by omega, take_next (by omega) (by omega) hk (hb3)⟩, (by dsimp only; omega), ⟨rfl, trivial⟩, ⟨⟨_, rfl, rfl⟩, ⟨_, rfl, rfl⟩, ⟨_, rfl, rfl⟩, trivial⟩, rfl⟩
    · skip
      replace hb2 := of_decide_eq_false hb2
      refine AW.exit ?_
      refine AW.seq ?_
      refine AW.region ?_
      refine AO.xs rfl rfl rfl (XS.assign rfl) ?_
      refine AO.nil ?_
      refine AW.ret ?_
      obtain rfl : i = xs.length := by omega
      exact ⟨_, rfl, congrArg boolD (eqP_yes (take_all hk (by omega))).symm⟩

set_option maxRecDepth 100000 in
theorem equalTerms_c {xs ys : List Tm} (hx : xs.length ≤ 1048576) : AC Try.prog 119 [tmsD xs, tmsD ys] (fun d => d = boolD (eqP (xs = ys))) := by
  refine AC.intro Try.func119 Try.ntmps119 Try.results119 rfl (by simp) (fun w0 T => ?_)
  refine AW.seq ?_
  refine AW.region ?_
  refine AO.xs rfl rfl rfl (XS.assign rfl) ?_
  refine AO.nil ?_
  refine AW.seq ?_
  refine AW.seq ?_
  refine AW.region ?_
  refine AO.xs rfl rfl rfl (XS.move rfl) ?_
  refine AO.xs rfl rfl rfl (XS.lenM rfl (el rfl)) ?_
  refine AO.xs rfl rfl rfl (XS.move rfl) ?_
  refine AO.xs rfl rfl rfl (XS.lenM rfl (el rfl)) ?_
  refine AO.xs rfl rfl rfl (XS.int rfl rfl rfl) ?_
  refine AO.nil ?_
  refine AW.cond rfl (fun hb1 => ?_) (fun hb1 => ?_)
  · skip
    replace hb1 := bne_iff_ne.1 hb1
    refine AW.seq ?_
    refine AW.region ?_
    refine AO.xs rfl rfl rfl (XS.assign rfl) ?_
    refine AO.nil ?_
    refine AW.ret ?_
    exact ⟨_, rfl, congrArg boolD (eqP_no (fun e => hb1 (by rw [e]))).symm⟩
  · skip
    replace hb1 := bne_eq_false_iff_eq.1 hb1
    refine AW.skip ?_
    refine AW.seq ?_
    refine AW.seq ?_
    refine AW.region ?_
    refine AO.xs rfl rfl rfl (XS.move rfl) ?_
    refine AO.xs rfl rfl rfl (XS.lenM rfl (el rfl)) ?_
    refine AO.xs rfl rfl rfl (XS.move rfl) ?_
    refine AO.nil ?_
    refine AW.block ?_
    refine AW.loop [0, 1, 12] (fun i => [(13, .d (intD ((i : Nat) : Int)))]) (fun _ => _) (fun i => i ≤ xs.length ∧ xs.take i = ys.take i) (fun i => xs.length - i) (0) ⟨Nat.zero_le _, by simp⟩ ⟨rfl, trivial⟩ ⟨⟨_, rfl, rfl⟩, ⟨_, rfl, rfl⟩, ⟨_, rfl, rfl⟩, trivial⟩ rfl ?_
    intro i ⟨hi, hk⟩
    refine AW.seq ?_
    refine AW.region ?_
    refine AO.xs rfl rfl rfl (XS.int rfl rfl rfl) ?_
    refine AO.nil ?_
    refine AW.seq ?_
    refine AW.cond rfl (fun hb2 => ?_) (fun hb2 => ?_)
    · skip
      replace hb2 := of_decide_eq_true hb2
      refine AW.skip ?_
      refine AW.seq ?_
      refine AW.block ?_
      refine AW.seq ?_
      refine AW.region ?_
      refine AO.xs rfl rfl rfl (XS.move rfl) ?_
      refine AO.xs rfl rfl rfl (XS.assign rfl) ?_
      refine AO.nil ?_
      refine AW.seq ?_
      refine AW.drawn mix ?_
      refine DC.cons rfl rfl rfl (XS.move rfl) ?_
      refine DC.cons rfl rfl rfl (XS.move rfl) ?_
      refine DC.cons rfl rfl rfl (XS.indexM rfl rfl (el rfl) (by omega) rfl) ?_
      refine DC.cons rfl rfl rfl (XS.loadEA rfl (ro rfl) (sz rfl) (Nat.le_of_ble_eq_true rfl)) ?_
      refine DC.cons rfl rfl rfl (XS.move rfl) ?_
      refine DC.cons rfl rfl rfl (XS.move rfl) ?_
      refine DC.cons rfl rfl rfl (XS.indexM rfl rfl (el rfl) (by omega) rfl) ?_
      refine DC.cons rfl rfl rfl (XS.loadEA rfl (ro rfl) (sz rfl) (Nat.le_of_ble_eq_true rfl)) ?_
      refine DC.cons rfl rfl rfl (XS.neqS rfl rfl (eqs rfl) rfl rfl) ?_
      refine DC.done (by kernel_rfl) ?_
      refine AO.nil ?_
      refine AW.cond rfl (fun hb3 => ?_) (fun hb3 => ?_)
      · skip
        replace hb3 := eqP_iff.1 hb3
        refine AW.seq ?_
        refine AW.region ?_
        refine AO.xs rfl rfl rfl (XS.assign rfl) ?_
        refine AO.nil ?_
        refine AW.ret ?_
        exact ⟨_, rfl, congrArg boolD (eqP_no (fun e => hb3 (by subst e; rfl))).symm⟩
      · skip
        replace hb3 := eqP_false.1 hb3
        refine AW.skip ?_
        refine AW.region ?_
        refine AO.xs rfl rfl rfl (XS.addI rfl rfl (by omega)) ?_
        refine AO.xs rfl rfl rfl (XS.move rfl) ?_
        refine AO.nil ?_
        exact ⟨i + 1, ⟨by omega, take_next (by omega) (by omega) hk (Tm.cs_inj.1 (Classical.not_not.1 hb3))⟩, (by dsimp only; omega), ⟨rfl, trivial⟩, ⟨⟨_, rfl, rfl⟩, ⟨_, rfl, rfl⟩, ⟨_, rfl, rfl⟩, trivial⟩, rfl⟩
    · skip
      replace hb2 := of_decide_eq_false hb2
      refine AW.exit ?_
      refine AW.seq ?_
      refine AW.region ?_
      refine AO.xs rfl rfl rfl (XS.assign rfl) ?_
      refine AO.nil ?_
      refine AW.ret ?_
      obtain rfl : i = xs.length := by omega
      exact ⟨_, rfl, congrArg boolD (eqP_yes (take_all hk (by omega))).symm⟩

set_option maxRecDepth 100000 in
theorem sameComboI_c {xs ys : List Tm} (hx : xs.length ≤ 1048576) : AC Try.prog 94 [tmsD xs, tmsD ys] (fun d => d = boolD (eqP (xs = ys))) := by
  refine AC.intro Try.func94 Try.ntmps94 Try.results94 rfl (by simp) (fun w0 T => ?_)
  refine AW.seq ?_
  refine AW.region ?_
  refine AO.xs rfl rfl rfl (XS.assign rfl) ?_
  refine AO.nil ?_
  refine AW.seq ?_
  refine AW.region ?_
  refine AO.xs rfl rfl rfl (XS.move rfl) ?_
  refine AO.xs rfl rfl rfl (XS.move rfl) ?_
  refine AO.xs rfl rfl rfl (XS.call rfl (by kernel_rfl) rfl (equalTerms_c (by omega))) ?_
  refine AO.xs rfl rfl rfl (XS.assign rfl) ?_
  refine AO.nil ?_
  refine AW.ret ?_
  exact ⟨_, rfl, rfl⟩

set_option maxRecDepth 100000 in
theorem sameComboS_c {xs ys : List Tm} (hx : xs.length ≤ 1048576) : AC Try.prog 89 [tmsD xs, tmsD ys] (fun d => d = boolD (eqP (xs = ys))) := by
  refine AC.intro Try.func89 Try.ntmps89 Try.results89 rfl (by simp) (fun w0 T => ?_)
  refine AW.seq ?_
  refine AW.region ?_
  refine AO.xs rfl rfl rfl (XS.assign rfl) ?_
  refine AO.nil ?_
  refine AW.seq ?_
  refine AW.seq ?_
  refine AW.region ?_
  refine AO.xs rfl rfl rfl (XS.move rfl) ?_
  refine AO.xs rfl rfl rfl (XS.lenM rfl (el rfl)) ?_
  refine AO.xs rfl rfl rfl (XS.move rfl) ?_
  refine AO.xs rfl rfl rfl (XS.lenM rfl (el rfl)) ?_
  refine AO.xs rfl rfl rfl (XS.int rfl rfl rfl) ?_
  refine AO.nil ?_
  refine AW.cond rfl (fun hb1 => ?_) (fun hb1 => ?_)
  · skip
    replace hb1 := bne_iff_ne.1 hb1
    refine AW.seq ?_
    refine AW.region ?_
    refine AO.xs rfl rfl rfl (XS.assign rfl) ?_
    refine AO.nil ?_
    refine AW.ret ?_
    exact ⟨_, rfl, congrArg boolD (eqP_no (fun e => hb1 (by rw [e]))).symm⟩
  · skip
    replace hb1 := bne_eq_false_iff_eq.1 hb1
    refine AW.skip ?_
    refine AW.seq ?_
    refine AW.seq ?_
    refine AW.region ?_
    refine AO.xs rfl rfl rfl (XS.assign rfl) ?_
    refine AO.nil ?_
    refine AW.block ?_
    refine AW.loop [0, 1] (fun i => [(5, .d (intD ((i : Nat) : Int)))]) (fun _ => _) (fun i => i ≤ xs.length ∧ xs.take i = ys.take i) (fun i => xs.length - i) (0) ⟨Nat.zero_le _, by simp⟩ ⟨rfl, trivial⟩ ⟨⟨_, rfl, rfl⟩, ⟨_, rfl, rfl⟩, trivial⟩ rfl ?_
    intro i ⟨hi, hk⟩
    refine AW.seq ?_
    refine AW.seq ?_
    refine AW.region ?_
    refine AO.xs rfl rfl rfl (XS.move rfl) ?_
    refine AO.xs rfl rfl rfl (XS.move rfl) ?_
    refine AO.xs rfl rfl rfl (XS.lenM rfl (el rfl)) ?_
    refine AO.xs rfl rfl rfl (XS.int rfl rfl rfl) ?_
    refine AO.nil ?_
    refine AW.cond rfl (fun hb2 => ?_) (fun hb2 => ?_)
    · skip
      replace hb2 := of_decide_eq_true hb2
      refine AW.skip ?_
      refine AW.seq ?_
      refine AW.block ?_
      refine AW.seq ?_
      refine AW.drawn mix ?_
      refine DC.cons rfl rfl rfl (XS.move rfl) ?_
      refine DC.cons rfl rfl rfl (XS.move rfl) ?_
      refine DC.cons rfl rfl rfl (XS.indexM rfl rfl (el rfl) (by omega) rfl) ?_
      refine DC.cons rfl rfl rfl (XS.loadEA rfl (ro rfl) (sz rfl) (Nat.le_of_ble_eq_true rfl)) ?_
      refine DC.cons rfl rfl rfl (XS.move rfl) ?_
      refine DC.cons rfl rfl rfl (XS.move rfl) ?_
      refine DC.cons rfl rfl rfl (XS.indexM rfl rfl (el rfl) (by omega) rfl) ?_
      refine DC.cons rfl rfl rfl (XS.loadEA rfl (ro rfl) (sz rfl) (Nat.le_of_ble_eq_true rfl)) ?_
      refine DC.cons rfl rfl rfl (XS.neqS rfl rfl (eqs rfl) rfl rfl) ?_
      refine DC.done (by kernel_rfl) ?_
      refine AO.nil ?_
      refine AW.cond rfl (fun hb3 => ?_) (fun hb3 => ?_)
      · skip
        replace hb3 := eqP_iff.1 hb3
        refine AW.seq ?_
        refine AW.region ?_
        refine AO.xs rfl rfl rfl (XS.assign rfl) ?_
        refine AO.nil ?_
        refine AW.ret ?_
        exact ⟨_, rfl, congrArg boolD (eqP_no (fun e => hb3 (by subst e; rfl))).symm⟩
      · skip
        replace hb3 := eqP_false.1 hb3
        refine AW.skip ?_
        refine AW.region ?_
        refine AO.xs rfl rfl rfl (XS.move rfl) ?_
        refine AO.xs rfl rfl rfl (XS.addI rfl rfl (by omega)) ?_
        refine AO.xs rfl rfl rfl (XS.assign rfl) ?_
        refine AO.nil ?_
        exact ⟨i + 1, ⟨by omega, take_next (by omega) (by omega) hk (Tm.cs_inj.1 (Classical.not_not.1 hb3))⟩, (by dsimp only; omega), ⟨rfl, trivial⟩, ⟨⟨_, rfl, rfl⟩, ⟨_, rfl, rfl⟩, trivial⟩, rfl⟩
    · skip
      replace hb2 := of_decide_eq_false hb2
      refine AW.exit ?_
      refine AW.seq ?_
      refine AW.region ?_
      refine AO.xs rfl rfl rfl (XS.assign rfl) ?_
      refine AO.nil ?_
      refine AW.ret ?_
      obtain rfl : i = xs.length := by omega
      exact ⟨_, rfl, congrArg boolD (eqP_yes (take_all hk (by omega))).symm⟩


def cmbD (l : List (List Tm)) : Dv := .sl (l.map fun t => [tmsD t])
theorem combs_inj {p q : Rw} : combs p = combs q ↔ p = q := by cases p; cases q; simp [combs]
theorem combs_mem {p : Rw} (h : p.sm) : ∀ l ∈ combs p, l.length ≤ 1048576 := by
  intro l hl
  simp only [combs, List.mem_cons, List.not_mem_nil, or_false] at hl
  obtain ⟨h1, h2, h3⟩ := h
  rcases hl with rfl | rfl | rfl <;> assumption

set_option maxRecDepth 100000 in
theorem equalCombos_c {xs ys : List (List Tm)} (hx : xs.length ≤ 1048576) (h2 : ∀ r ∈ xs, r.length ≤ 1048576) : AC Try.prog 93 [cmbD xs, cmbD ys, .fn (.func 94) [] []] (fun d => d = boolD (eqP (xs = ys))) := by
  refine AC.intro Try.func93 Try.ntmps93 Try.results93 rfl (by simp) (fun w0 T => ?_)
  refine AW.seq ?_
  refine AW.region ?_
  refine AO.xs rfl rfl rfl (XS.assign rfl) ?_
  refine AO.nil ?_
  refine AW.seq ?_
  refine AW.seq ?_
  refine AW.region ?_
  refine AO.xs rfl rfl rfl (XS.move rfl) ?_
  refine AO.xs rfl rfl rfl (XS.lenM rfl (el rfl)) ?_
  refine AO.xs rfl rfl rfl (XS.move rfl) ?_
  refine AO.xs rfl rfl rfl (XS.lenM rfl (el rfl)) ?_
  refine AO.xs rfl rfl rfl (XS.int rfl rfl rfl) ?_
  refine AO.nil ?_
  refine AW.cond rfl (fun hb1 => ?_) (fun hb1 => ?_)
  · skip
    replace hb1 := bne_iff_ne.1 hb1
    refine AW.seq ?_
    refine AW.region ?_
    refine AO.xs rfl rfl rfl (XS.assign rfl) ?_
    refine AO.nil ?_
    refine AW.ret ?_
    exact ⟨_, rfl, congrArg boolD (eqP_no (fun e => hb1 (by rw [e]))).symm⟩
  · skip
    replace hb1 := bne_eq_false_iff_eq.1 hb1
    refine AW.skip ?_
    refine AW.seq ?_
    refine AW.seq ?_
    refine AW.region ?_
    refine AO.xs rfl rfl rfl (XS.move rfl) ?_
    refine AO.xs rfl rfl rfl (XS.lenM rfl (el rfl)) ?_
    refine AO.xs rfl rfl rfl (XS.move rfl) ?_
    refine AO.nil ?_
    refine AW.block ?_
    refine AW.loop [1, 2, 15, 16] (fun i => [(17, .d (intD ((i : Nat) : Int)))]) (fun _ => _) (fun i => i ≤ xs.length ∧ xs.take i = ys.take i) (fun i => xs.length - i) (0) ⟨Nat.zero_le _, by simp⟩ ⟨rfl, trivial⟩ ⟨⟨_, rfl, rfl⟩, ⟨_, rfl, rfl⟩, ⟨_, rfl, rfl⟩, ⟨_, rfl, rfl⟩, trivial⟩ rfl ?_
    intro i ⟨hi, hk⟩
    refine AW.seq ?_
    refine AW.region ?_
    refine AO.xs rfl rfl rfl (XS.int rfl rfl rfl) ?_
    refine AO.nil ?_
    refine AW.seq ?_
    refine AW.cond rfl (fun hb2 => ?_) (fun hb2 => ?_)
    · skip
      replace hb2 := of_decide_eq_true hb2
      refine AW.skip ?_
      refine AW.seq ?_
      refine AW.block ?_
      refine AW.seq ?_
      refine AW.region ?_
      refine AO.xs rfl rfl rfl (XS.move rfl) ?_
      refine AO.xs rfl rfl rfl (XS.indexM rfl rfl (el rfl) (by omega) rfl) ?_
      refine AO.xs rfl rfl rfl (XS.loadE rfl (on rfl) rfl) ?_
      refine AO.xs rfl rfl rfl (XS.assign rfl) ?_
      refine AO.xs rfl rfl rfl (XS.assign rfl) ?_
      refine AO.nil ?_
      refine AW.seq ?_
      refine AW.region ?_
      refine AO.xs rfl rfl rfl (XS.move rfl) ?_
      refine AO.xs rfl rfl rfl (XS.move rfl) ?_
      refine AO.xs rfl rfl rfl (XS.indexM rfl rfl (el rfl) (by omega) rfl) ?_
      refine AO.xs rfl rfl rfl (XS.loadE rfl (on rfl) rfl) ?_
      refine AO.xs rfl rfl rfl (XS.assign rfl) ?_
      refine AO.nil ?_
      refine AW.seq ?_
      refine AW.region ?_
      refine AO.xs rfl rfl rfl (XS.move rfl) ?_
      refine AO.xs rfl rfl rfl (XS.move rfl) ?_
      refine AO.xs rfl rfl rfl (XS.move rfl) ?_
      refine AO.xs rfl rfl rfl (XS.call rfl (by kernel_rfl) rfl (sameComboI_c (h2 _ (List.getElem_mem (by omega))))) ?_
      refine AO.xs rfl rfl rfl (XS.not rfl) ?_
      refine AO.nil ?_
      refine AW.cond rfl (fun hb3 => ?_) (fun hb3 => ?_)
      · skip
        replace hb3 := eqP_false.1 (notT hb3)
        refine AW.seq ?_
        refine AW.region ?_
        refine AO.xs rfl rfl rfl (XS.assign rfl) ?_
        refine AO.nil ?_
        refine AW.ret ?_
        exact ⟨_, rfl, congrArg boolD (eqP_no (fun e => hb3 (by subst e; rfl))).symm⟩
      · skip
        replace hb3 := eqP_iff.1 (notF hb3)
        refine AW.skip ?_
        refine AW.region ?_
        refine AO.trim 0 (Nat.zero_le _) (Nat.zero_le _) ?_
        refine AO.xs rfl rfl rfl (XS.addI rfl rfl (by omega)) ?_
        refine AO.xs rfl rfl rfl (XS.move rfl) ?_
        refine AO.nil ?_
        exact ⟨i + 1, ⟨by omega, take_next (by omega) (by omega) hk (hb3)⟩, (by dsimp only; omega), ⟨rfl, trivial⟩, ⟨⟨_, rfl, rfl⟩, ⟨_, rfl, rfl⟩, ⟨_, rfl, rfl⟩, ⟨_, rfl, rfl⟩, trivial⟩, rfl⟩
    · skip
      replace hb2 := of_decide_eq_false hb2
      refine AW.exit ?_
      refine AW.seq ?_
      refine AW.region ?_
      refine AO.xs rfl rfl rfl (XS.assign rfl) ?_
      refine AO.nil ?_
      refine AW.ret ?_
      obtain rfl : i = xs.length := by omega
      exact ⟨_, rfl, congrArg boolD (eqP_yes (take_all hk (by omega))).symm⟩

set_option maxRecDepth 100000 in
theorem sameRow_c {p q : Rw} (h : p.sm) : AC Try.prog 92 [.ag p.cs, .ag q.cs] (fun d => d = boolD (eqP (p = q))) := by
  refine AC.intro Try.func92 Try.ntmps92 Try.results92 rfl (by simp) (fun w0 T => ?_)
  refine AW.seq ?_
  refine AW.region ?_
  refine AO.box rfl rfl rfl rfl ?_
  refine AO.box rfl rfl rfl rfl ?_
  refine AO.xs rfl rfl rfl (XS.assign rfl) ?_
  refine AO.nil ?_
  refine AW.seq ?_
  refine AW.drawn mix ?_
  refine DC.cons rfl rfl rfl (XS.loadA rfl (ro rfl) (sz rfl) rfl (Nat.le_of_ble_eq_true rfl)) ?_
  refine DC.cons rfl rfl rfl (XS.call rfl (by kernel_rfl) rfl (combos_c (p := p))) ?_
  refine DC.cons rfl rfl rfl (XS.loadA rfl (ro rfl) (sz rfl) rfl (Nat.le_of_ble_eq_true rfl)) ?_
  refine DC.cons rfl rfl rfl (XS.call rfl (by kernel_rfl) rfl (combos_c (p := q))) ?_
  refine DC.cons rfl rfl rfl (XS.call rfl (by kernel_rfl) rfl (equalCombos_c (xs := combs p) (ys := combs q) (show 3 ≤ 1048576 by decide) (combs_mem h))) ?_
  refine DC.cons rfl rfl rfl (XS.assign rfl) ?_
  refine DC.done (by kernel_rfl) ?_
  refine AO.nil ?_
  refine AW.ret ?_
  exact ⟨_, rfl, congrArg boolD (eqP_congr combs_inj)⟩

set_option maxRecDepth 100000 in
theorem equalRows_c {xs ys : List Rw} (hx : xs.length ≤ 1048576) (h2 : ∀ r ∈ xs, r.sm) : AC Try.prog 91 [rowsD xs, rowsD ys, .fn (.func 92) [] []] (fun d => d = boolD (eqP (xs = ys))) := by
  refine AC.intro Try.func91 Try.ntmps91 Try.results91 rfl (by simp) (fun w0 T => ?_)
  refine AW.seq ?_
  refine AW.region ?_
  refine AO.xs rfl rfl rfl (XS.assign rfl) ?_
  refine AO.nil ?_
  refine AW.seq ?_
  refine AW.seq ?_
  refine AW.region ?_
  refine AO.xs rfl rfl rfl (XS.move rfl) ?_
  refine AO.xs rfl rfl rfl (XS.lenM rfl (el rfl)) ?_
  refine AO.xs rfl rfl rfl (XS.move rfl) ?_
  refine AO.xs rfl rfl rfl (XS.lenM rfl (el rfl)) ?_
  refine AO.xs rfl rfl rfl (XS.int rfl rfl rfl) ?_
  refine AO.nil ?_
  refine AW.cond rfl (fun hb1 => ?_) (fun hb1 => ?_)
  · skip
    replace hb1 := bne_iff_ne.1 hb1
    refine AW.seq ?_
    refine AW.region ?_
    refine AO.xs rfl rfl rfl (XS.assign rfl) ?_
    refine AO.nil ?_
    refine AW.ret ?_
    exact ⟨_, rfl, congrArg boolD (eqP_no (fun e => hb1 (by rw [e]))).symm⟩
  · skip
    replace hb1 := bne_eq_false_iff_eq.1 hb1
    refine AW.skip ?_
    refine AW.seq ?_
    refine AW.seq ?_
    refine AW.region ?_
    refine AO.xs rfl rfl rfl (XS.move rfl) ?_
    refine AO.xs rfl rfl rfl (XS.lenM rfl (el rfl)) ?_
    refine AO.xs rfl rfl rfl (XS.move rfl) ?_
    refine AO.nil ?_
    refine AW.block ?_
    refine AW.loop [1, 2, 15, 16] (fun i => [(17, .d (intD ((i : Nat) : Int)))]) (fun _ => _) (fun i => i ≤ xs.length ∧ xs.take i = ys.take i) (fun i => xs.length - i) (0) ⟨Nat.zero_le _, by simp⟩ ⟨rfl, trivial⟩ ⟨⟨_, rfl, rfl⟩, ⟨_, rfl, rfl⟩, ⟨_, rfl, rfl⟩, ⟨_, rfl, rfl⟩, trivial⟩ rfl ?_
    intro i ⟨hi, hk⟩
    refine AW.seq ?_
    refine AW.region ?_
    refine AO.xs rfl rfl rfl (XS.int rfl rfl rfl) ?_
    refine AO.nil ?_
    refine AW.seq ?_
    refine AW.cond rfl (fun hb2 => ?_) (fun hb2 => ?_)
    · skip
      replace hb2 := of_decide_eq_true hb2
      refine AW.skip ?_
      refine AW.seq ?_
      refine AW.block ?_
      refine AW.seq ?_
      refine AW.region ?_
      refine AO.xs rfl rfl rfl (XS.move rfl) ?_
      refine AO.xs rfl rfl rfl (XS.indexM rfl rfl (el rfl) (by omega) rfl) ?_
      refine AO.xs rfl rfl rfl (XS.loadEA rfl (ro rfl) (sz rfl) (Nat.le_of_ble_eq_true rfl)) ?_
      refine AO.alloc rfl rfl (ze rfl) ?_
      refine AO.xs rfl rfl rfl (XS.assign rfl) ?_
      refine AO.store rfl rfl rfl rfl (sz rfl) rfl rfl rfl rfl ?_
      refine AO.nil ?_
      refine AW.seq ?_
      refine AW.region ?_
      refine AO.xs rfl rfl rfl (XS.move rfl) ?_
      refine AO.xs rfl rfl rfl (XS.move rfl) ?_
      refine AO.xs rfl rfl rfl (XS.indexM rfl rfl (el rfl) (by omega) rfl) ?_
      refine AO.xs rfl rfl rfl (XS.loadEA rfl (ro rfl) (sz rfl) (Nat.le_of_ble_eq_true rfl)) ?_
      refine AO.alloc rfl rfl (ze rfl) ?_
      refine AO.store rfl rfl rfl rfl (sz rfl) rfl rfl rfl rfl ?_
      refine AO.nil ?_
      refine AW.seq ?_
      refine AW.region ?_
      refine AO.xs rfl rfl rfl (XS.move rfl) ?_
      refine AO.xs rfl rfl rfl (XS.loadA rfl (ro rfl) (sz rfl) rfl (Nat.le_of_ble_eq_true rfl)) ?_
      refine AO.xs rfl rfl rfl (XS.loadA rfl (ro rfl) (sz rfl) rfl (Nat.le_of_ble_eq_true rfl)) ?_
      refine AO.xs rfl rfl rfl (XS.call rfl (by kernel_rfl) rfl (sameRow_c (p := xs[i]) (q := ys[i]) (h2 _ (List.getElem_mem (by omega))))) ?_
      refine AO.xs rfl rfl rfl (XS.not rfl) ?_
      refine AO.nil ?_
      refine AW.cond rfl (fun hb3 => ?_) (fun hb3 => ?_)
      · skip
        replace hb3 := eqP_false.1 (notT hb3)
        refine AW.seq ?_
        refine AW.region ?_
        refine AO.xs rfl rfl rfl (XS.assign rfl) ?_
        refine AO.nil ?_
        refine AW.ret ?_
        exact ⟨_, rfl, congrArg boolD (eqP_no (fun e => hb3 (by subst e; rfl))).symm⟩
      · skip
        replace hb3 := eqP_iff.1 (notF hb3)
        refine AW.skip ?_
        refine AW.region ?_
        refine AO.trim 0 (Nat.zero_le _) (Nat.zero_le _) ?_
        refine AO.xs rfl rfl rfl (XS.addI rfl rfl (by omega)) ?_
        refine AO.xs rfl rfl rfl (XS.move rfl) ?_
        refine AO.nil ?_
        exact ⟨i + 1, ⟨by omega, take_next (by omega) (by omega) hk (hb3)⟩, (by dsimp only; omega), ⟨rfl, trivial⟩, ⟨⟨_, rfl, rfl⟩, ⟨_, rfl, rfl⟩, ⟨_, rfl, rfl⟩, ⟨_, rfl, rfl⟩, trivial⟩, rfl⟩
    · skip
      replace hb2 := of_decide_eq_false hb2
      refine AW.exit ?_
      refine AW.seq ?_
      refine AW.region ?_
      refine AO.xs rfl rfl rfl (XS.assign rfl) ?_
      refine AO.nil ?_
      refine AW.ret ?_
      obtain rfl : i = xs.length := by omega
      exact ⟨_, rfl, congrArg boolD (eqP_yes (take_all hk (by omega))).symm⟩

set_option maxRecDepth 100000 in
theorem sameSystemI_c {p q : Sy} (h : p.sm) : AC Try.prog 47 [.ag p.cs, .ag q.cs] (fun d => d = boolD (eqP (p = q))) := by
  refine AC.intro Try.func47 Try.ntmps47 Try.results47 rfl (by simp) (fun w0 T => ?_)
  refine AW.seq ?_
  refine AW.region ?_
  refine AO.box rfl rfl rfl rfl ?_
  refine AO.box rfl rfl rfl rfl ?_
  refine AO.xs rfl rfl rfl (XS.assign rfl) ?_
  refine AO.nil ?_
  refine AW.seq ?_
  refine AW.region ?_
  refine AO.xs rfl rfl rfl (XS.field rfl (fo rfl)) ?_
  refine AO.xs rfl rfl rfl (XS.load rfl (on rfl) rfl rfl) ?_
  refine AO.xs rfl rfl rfl (XS.field rfl (fo rfl)) ?_
  refine AO.xs rfl rfl rfl (XS.load rfl (on rfl) rfl rfl) ?_
  refine AO.xs rfl rfl rfl (XS.int rfl rfl rfl) ?_
  refine AO.xs rfl rfl rfl (XS.move rfl) ?_
  refine AO.split 10 rfl (fun hg1 => ?_) (fun hg1 => ?_)
  · skip
    have hg1n := eq_of_beq hg1
    refine AO.gyes rfl rfl rfl rfl rfl rfl hg1 rfl (XS.field rfl (fo rfl)) ?_
    refine AO.gyes rfl rfl rfl rfl rfl rfl hg1 rfl (XS.load rfl (on rfl) rfl rfl) ?_
    refine AO.gyes rfl rfl rfl rfl rfl rfl hg1 rfl (XS.field rfl (fo rfl)) ?_
    refine AO.gyes rfl rfl rfl rfl rfl rfl hg1 rfl (XS.load rfl (on rfl) rfl rfl) ?_
    refine AO.gyes rfl rfl rfl rfl rfl rfl hg1 rfl (XS.int rfl rfl rfl) ?_
    refine AO.xs rfl rfl rfl (XS.pickT rfl rfl hg1) ?_
    refine AO.xs rfl rfl rfl (XS.move rfl) ?_
    refine AO.split 17 rfl (fun hg2 => ?_) (fun hg2 => ?_)
    · skip
      have hg2n := eq_of_beq hg2
      refine AO.gyes rfl rfl rfl rfl rfl rfl hg2 rfl (XS.field rfl (fo rfl)) ?_
      refine AO.gyes rfl rfl rfl rfl rfl rfl hg2 rfl (XS.load rfl (on rfl) rfl rfl) ?_
      refine AO.gyes rfl rfl rfl rfl rfl rfl hg2 rfl (XS.field rfl (fo rfl)) ?_
      refine AO.gyes rfl rfl rfl rfl rfl rfl hg2 rfl (XS.load rfl (on rfl) rfl rfl) ?_
      refine AO.gyes rfl rfl rfl rfl rfl rfl hg2 rfl (XS.int rfl rfl rfl) ?_
      refine AO.xs rfl rfl rfl (XS.pickT rfl rfl hg2) ?_
      refine AO.xs rfl rfl rfl (XS.move rfl) ?_
      refine AO.split 24 rfl (fun hg3 => ?_) (fun hg3 => ?_)
      · skip
        have hg3n := eq_of_beq hg3
        refine AO.gyes rfl rfl rfl rfl rfl rfl hg3 rfl (XS.field rfl (fo rfl)) ?_
        refine AO.gyes rfl rfl rfl rfl rfl rfl hg3 rfl (XS.load rfl (on rfl) rfl rfl) ?_
        refine AO.gyes rfl rfl rfl rfl rfl rfl hg3 rfl (XS.field rfl (fo rfl)) ?_
        refine AO.gyes rfl rfl rfl rfl rfl rfl hg3 rfl (XS.load rfl (on rfl) rfl rfl) ?_
        refine AO.gyes rfl rfl rfl rfl rfl rfl hg3 rfl (XS.int rfl rfl rfl) ?_
        refine AO.xs rfl rfl rfl (XS.pickT rfl rfl hg3) ?_
        refine AO.xs rfl rfl rfl (XS.move rfl) ?_
        refine AO.split 31 rfl (fun hg4 => ?_) (fun hg4 => ?_)
        · skip
          have hg4n := eq_of_beq hg4
          refine AO.gyes rfl rfl rfl rfl rfl rfl hg4 rfl (XS.field rfl (fo rfl)) ?_
          refine AO.gyes rfl rfl rfl rfl rfl rfl hg4 rfl (XS.load rfl (on rfl) rfl rfl) ?_
          refine AO.gyes rfl rfl rfl rfl rfl rfl hg4 rfl (XS.field rfl (fo rfl)) ?_
          refine AO.gyes rfl rfl rfl rfl rfl rfl hg4 rfl (XS.load rfl (on rfl) rfl rfl) ?_
          refine AO.gyes rfl rfl rfl rfl rfl rfl hg4 rfl (XS.int rfl rfl rfl) ?_
          refine AO.xs rfl rfl rfl (XS.pickT rfl rfl hg4) ?_
          refine AO.xs rfl rfl rfl (XS.move rfl) ?_
          refine AO.split 38 rfl (fun hg5 => ?_) (fun hg5 => ?_)
          · skip
            have hg5n := eq_of_beq hg5
            refine AO.gyes rfl rfl rfl rfl rfl rfl hg5 rfl (XS.field rfl (fo rfl)) ?_
            refine AO.gyes rfl rfl rfl rfl rfl rfl hg5 rfl (XS.load rfl (on rfl) rfl rfl) ?_
            refine AO.gyes rfl rfl rfl rfl rfl rfl hg5 rfl (XS.field rfl (fo rfl)) ?_
            refine AO.gyes rfl rfl rfl rfl rfl rfl hg5 rfl (XS.load rfl (on rfl) rfl rfl) ?_
            refine AO.gyes rfl rfl rfl rfl rfl rfl hg5 rfl (XS.call rfl (by kernel_rfl) rfl (equalInts_c h.1)) ?_
            refine AO.xs rfl rfl rfl (XS.pickT rfl rfl hg5) ?_
            refine AO.xs rfl rfl rfl (XS.move rfl) ?_
            refine AO.split 45 rfl (fun hg6 => ?_) (fun hg6 => ?_)
            · skip
              have hg6n := eqP_iff.1 hg6
              refine AO.gyes rfl rfl rfl rfl rfl rfl hg6 rfl (XS.field rfl (fo rfl)) ?_
              refine AO.gyes rfl rfl rfl rfl rfl rfl hg6 rfl (XS.load rfl (on rfl) rfl rfl) ?_
              refine AO.gyes rfl rfl rfl rfl rfl rfl hg6 rfl (XS.field rfl (fo rfl)) ?_
              refine AO.gyes rfl rfl rfl rfl rfl rfl hg6 rfl (XS.load rfl (on rfl) rfl rfl) ?_
              refine AO.gyes rfl rfl rfl rfl rfl rfl hg6 rfl (XS.call rfl (by kernel_rfl) rfl (equalRows_c h.2.1 h.2.2)) ?_
              refine AO.xs rfl rfl rfl (XS.pickT rfl rfl hg6) ?_
              refine AO.xs rfl rfl rfl (XS.assign rfl) ?_
              refine AO.nil ?_
              refine AW.ret ?_
              exact ⟨_, rfl, congrArg boolD (eqP_congr ⟨fun h => Sy.ext_iff.2 ⟨hg1n, hg2n, hg3n, hg4n, hg5n, hg6n, h⟩, fun h => by rw [h]⟩)⟩
            · skip
              have hg6n := eqP_false.1 hg6
              refine AO.gno rfl rfl rfl rfl rfl rfl hg6 (by decide) rfl ?_
              refine AO.gno rfl rfl rfl rfl rfl rfl hg6 (by decide) rfl ?_
              refine AO.gno rfl rfl rfl rfl rfl rfl hg6 (by decide) rfl ?_
              refine AO.gno rfl rfl rfl rfl rfl rfl hg6 (by decide) rfl ?_
              refine AO.gno rfl rfl rfl rfl rfl rfl hg6 (by decide) rfl ?_
              refine AO.xs rfl rfl rfl (XS.pickF rfl rfl hg6) ?_
              refine AO.xs rfl rfl rfl (XS.assign rfl) ?_
              refine AO.nil ?_
              refine AW.ret ?_
              exact ⟨_, rfl, congrArg boolD (eqP_no (fun e => hg6n (by rw [e]))).symm⟩
          · skip
            have hg5n := ne_of_beq_false hg5
            refine AO.gno rfl rfl rfl rfl rfl rfl hg5 (by decide) rfl ?_
            refine AO.gno rfl rfl rfl rfl rfl rfl hg5 (by decide) rfl ?_
            refine AO.gno rfl rfl rfl rfl rfl rfl hg5 (by decide) rfl ?_
            refine AO.gno rfl rfl rfl rfl rfl rfl hg5 (by decide) rfl ?_
            refine AO.gno rfl rfl rfl rfl rfl rfl hg5 (by decide) rfl ?_
            refine AO.xs rfl rfl rfl (XS.pickF rfl rfl hg5) ?_
            refine AO.xs rfl rfl rfl (XS.move rfl) ?_
            refine AO.gno rfl rfl rfl rfl rfl rfl rfl (by decide) rfl ?_
            refine AO.gno rfl rfl rfl rfl rfl rfl rfl (by decide) rfl ?_
            refine AO.gno rfl rfl rfl rfl rfl rfl rfl (by decide) rfl ?_
            refine AO.gno rfl rfl rfl rfl rfl rfl rfl (by decide) rfl ?_
            refine AO.gno rfl rfl rfl rfl rfl rfl rfl (by decide) rfl ?_
            refine AO.xs rfl rfl rfl (XS.pickF rfl rfl rfl) ?_
            refine AO.xs rfl rfl rfl (XS.assign rfl) ?_
            refine AO.nil ?_
            refine AW.ret ?_
            exact ⟨_, rfl, congrArg boolD (eqP_no (fun e => hg5n (by rw [e]))).symm⟩
        · skip
          have hg4n := ne_of_beq_false hg4
          refine AO.gno rfl rfl rfl rfl rfl rfl hg4 (by decide) rfl ?_
          refine AO.gno rfl rfl rfl rfl rfl rfl hg4 (by decide) rfl ?_
          refine AO.gno rfl rfl rfl rfl rfl rfl hg4 (by decide) rfl ?_
          refine AO.gno rfl rfl rfl rfl rfl rfl hg4 (by decide) rfl ?_
          refine AO.gno rfl rfl rfl rfl rfl rfl hg4 (by decide) rfl ?_
          refine AO.xs rfl rfl rfl (XS.pickF rfl rfl hg4) ?_
          refine AO.xs rfl rfl rfl (XS.move rfl) ?_
          refine AO.gno rfl rfl rfl rfl rfl rfl rfl (by decide) rfl ?_
          refine AO.gno rfl rfl rfl rfl rfl rfl rfl (by decide) rfl ?_
          refine AO.gno rfl rfl rfl rfl rfl rfl rfl (by decide) rfl ?_
          refine AO.gno rfl rfl rfl rfl rfl rfl rfl (by decide) rfl ?_
          refine AO.gno rfl rfl rfl rfl rfl rfl rfl (by decide) rfl ?_
          refine AO.xs rfl rfl rfl (XS.pickF rfl rfl rfl) ?_
          refine AO.xs rfl rfl rfl (XS.move rfl) ?_
          refine AO.gno rfl rfl rfl rfl rfl rfl rfl (by decide) rfl ?_
          refine AO.gno rfl rfl rfl rfl rfl rfl rfl (by decide) rfl ?_
          refine AO.gno rfl rfl rfl rfl rfl rfl rfl (by decide) rfl ?_
          refine AO.gno rfl rfl rfl rfl rfl rfl rfl (by decide) rfl ?_
          refine AO.gno rfl rfl rfl rfl rfl rfl rfl (by decide) rfl ?_
          refine AO.xs rfl rfl rfl (XS.pickF rfl rfl rfl) ?_
          refine AO.xs rfl rfl rfl (XS.assign rfl) ?_
          refine AO.nil ?_
          refine AW.ret ?_
          exact ⟨_, rfl, congrArg boolD (eqP_no (fun e => hg4n (by rw [e]))).symm⟩
      · skip
        have hg3n := ne_of_beq_false hg3
        refine AO.gno rfl rfl rfl rfl rfl rfl hg3 (by decide) rfl ?_
        refine AO.gno rfl rfl rfl rfl rfl rfl hg3 (by decide) rfl ?_
        refine AO.gno rfl rfl rfl rfl rfl rfl hg3 (by decide) rfl ?_
        refine AO.gno rfl rfl rfl rfl rfl rfl hg3 (by decide) rfl ?_
        refine AO.gno rfl rfl rfl rfl rfl rfl hg3 (by decide) rfl ?_
        refine AO.xs rfl rfl rfl (XS.pickF rfl rfl hg3) ?_
        refine AO.xs rfl rfl rfl (XS.move rfl) ?_
        refine AO.gno rfl rfl rfl rfl rfl rfl rfl (by decide) rfl ?_
        refine AO.gno rfl rfl rfl rfl rfl rfl rfl (by decide) rfl ?_
        refine AO.gno rfl rfl rfl rfl rfl rfl rfl (by decide) rfl ?_
        refine AO.gno rfl rfl rfl rfl rfl rfl rfl (by decide) rfl ?_
        refine AO.gno rfl rfl rfl rfl rfl rfl rfl (by decide) rfl ?_
        refine AO.xs rfl rfl rfl (XS.pickF rfl rfl rfl) ?_
        refine AO.xs rfl rfl rfl (XS.move rfl) ?_
        refine AO.gno rfl rfl rfl rfl rfl rfl rfl (by decide) rfl ?_
        refine AO.gno rfl rfl rfl rfl rfl rfl rfl (by decide) rfl ?_
        refine AO.gno rfl rfl rfl rfl rfl rfl rfl (by decide) rfl ?_
        refine AO.gno rfl rfl rfl rfl rfl rfl rfl (by decide) rfl ?_
        refine AO.gno rfl rfl rfl rfl rfl rfl rfl (by decide) rfl ?_
        refine AO.xs rfl rfl rfl (XS.pickF rfl rfl rfl) ?_
        refine AO.xs rfl rfl rfl (XS.move rfl) ?_
        refine AO.gno rfl rfl rfl rfl rfl rfl rfl (by decide) rfl ?_
        refine AO.gno rfl rfl rfl rfl rfl rfl rfl (by decide) rfl ?_
        refine AO.gno rfl rfl rfl rfl rfl rfl rfl (by decide) rfl ?_
        refine AO.gno rfl rfl rfl rfl rfl rfl rfl (by decide) rfl ?_
        refine AO.gno rfl rfl rfl rfl rfl rfl rfl (by decide) rfl ?_
        refine AO.xs rfl rfl rfl (XS.pickF rfl rfl rfl) ?_
        refine AO.xs rfl rfl rfl (XS.assign rfl) ?_
        refine AO.nil ?_
        refine AW.ret ?_
        exact ⟨_, rfl, congrArg boolD (eqP_no (fun e => hg3n (by rw [e]))).symm⟩
    · skip
      have hg2n := ne_of_beq_false hg2
      refine AO.gno rfl rfl rfl rfl rfl rfl hg2 (by decide) rfl ?_
      refine AO.gno rfl rfl rfl rfl rfl rfl hg2 (by decide) rfl ?_
      refine AO.gno rfl rfl rfl rfl rfl rfl hg2 (by decide) rfl ?_
      refine AO.gno rfl rfl rfl rfl rfl rfl hg2 (by decide) rfl ?_
      refine AO.gno rfl rfl rfl rfl rfl rfl hg2 (by decide) rfl ?_
      refine AO.xs rfl rfl rfl (XS.pickF rfl rfl hg2) ?_
      refine AO.xs rfl rfl rfl (XS.move rfl) ?_
      refine AO.gno rfl rfl rfl rfl rfl rfl rfl (by decide) rfl ?_
      refine AO.gno rfl rfl rfl rfl rfl rfl rfl (by decide) rfl ?_
      refine AO.gno rfl rfl rfl rfl rfl rfl rfl (by decide) rfl ?_
      refine AO.gno rfl rfl rfl rfl rfl rfl rfl (by decide) rfl ?_
      refine AO.gno rfl rfl rfl rfl rfl rfl rfl (by decide) rfl ?_
      refine AO.xs rfl rfl rfl (XS.pickF rfl rfl rfl) ?_
      refine AO.xs rfl rfl rfl (XS.move rfl) ?_
      refine AO.gno rfl rfl rfl rfl rfl rfl rfl (by decide) rfl ?_
      refine AO.gno rfl rfl rfl rfl rfl rfl rfl (by decide) rfl ?_
      refine AO.gno rfl rfl rfl rfl rfl rfl rfl (by decide) rfl ?_
      refine AO.gno rfl rfl rfl rfl rfl rfl rfl (by decide) rfl ?_
      refine AO.gno rfl rfl rfl rfl rfl rfl rfl (by decide) rfl ?_
      refine AO.xs rfl rfl rfl (XS.pickF rfl rfl rfl) ?_
      refine AO.xs rfl rfl rfl (XS.move rfl) ?_
      refine AO.gno rfl rfl rfl rfl rfl rfl rfl (by decide) rfl ?_
      refine AO.gno rfl rfl rfl rfl rfl rfl rfl (by decide) rfl ?_
      refine AO.gno rfl rfl rfl rfl rfl rfl rfl (by decide) rfl ?_
      refine AO.gno rfl rfl rfl rfl rfl rfl rfl (by decide) rfl ?_
      refine AO.gno rfl rfl rfl rfl rfl rfl rfl (by decide) rfl ?_
      refine AO.xs rfl rfl rfl (XS.pickF rfl rfl rfl) ?_
      refine AO.xs rfl rfl rfl (XS.move rfl) ?_
      refine AO.gno rfl rfl rfl rfl rfl rfl rfl (by decide) rfl ?_
      refine AO.gno rfl rfl rfl rfl rfl rfl rfl (by decide) rfl ?_
      refine AO.gno rfl rfl rfl rfl rfl rfl rfl (by decide) rfl ?_
      refine AO.gno rfl rfl rfl rfl rfl rfl rfl (by decide) rfl ?_
      refine AO.gno rfl rfl rfl rfl rfl rfl rfl (by decide) rfl ?_
      refine AO.xs rfl rfl rfl (XS.pickF rfl rfl rfl) ?_
      refine AO.xs rfl rfl rfl (XS.assign rfl) ?_
      refine AO.nil ?_
      refine AW.ret ?_
      exact ⟨_, rfl, congrArg boolD (eqP_no (fun e => hg2n (by rw [e]))).symm⟩
  · skip
    have hg1n := ne_of_beq_false hg1
    refine AO.gno rfl rfl rfl rfl rfl rfl hg1 (by decide) rfl ?_
    refine AO.gno rfl rfl rfl rfl rfl rfl hg1 (by decide) rfl ?_
    refine AO.gno rfl rfl rfl rfl rfl rfl hg1 (by decide) rfl ?_
    refine AO.gno rfl rfl rfl rfl rfl rfl hg1 (by decide) rfl ?_
    refine AO.gno rfl rfl rfl rfl rfl rfl hg1 (by decide) rfl ?_
    refine AO.xs rfl rfl rfl (XS.pickF rfl rfl hg1) ?_
    refine AO.xs rfl rfl rfl (XS.move rfl) ?_
    refine AO.gno rfl rfl rfl rfl rfl rfl rfl (by decide) rfl ?_
    refine AO.gno rfl rfl rfl rfl rfl rfl rfl (by decide) rfl ?_
    refine AO.gno rfl rfl rfl rfl rfl rfl rfl (by decide) rfl ?_
    refine AO.gno rfl rfl rfl rfl rfl rfl rfl (by decide) rfl ?_
    refine AO.gno rfl rfl rfl rfl rfl rfl rfl (by decide) rfl ?_
    refine AO.xs rfl rfl rfl (XS.pickF rfl rfl rfl) ?_
    refine AO.xs rfl rfl rfl (XS.move rfl) ?_
    refine AO.gno rfl rfl rfl rfl rfl rfl rfl (by decide) rfl ?_
    refine AO.gno rfl rfl rfl rfl rfl rfl rfl (by decide) rfl ?_
    refine AO.gno rfl rfl rfl rfl rfl rfl rfl (by decide) rfl ?_
    refine AO.gno rfl rfl rfl rfl rfl rfl rfl (by decide) rfl ?_
    refine AO.gno rfl rfl rfl rfl rfl rfl rfl (by decide) rfl ?_
    refine AO.xs rfl rfl rfl (XS.pickF rfl rfl rfl) ?_
    refine AO.xs rfl rfl rfl (XS.move rfl) ?_
    refine AO.gno rfl rfl rfl rfl rfl rfl rfl (by decide) rfl ?_
    refine AO.gno rfl rfl rfl rfl rfl rfl rfl (by decide) rfl ?_
    refine AO.gno rfl rfl rfl rfl rfl rfl rfl (by decide) rfl ?_
    refine AO.gno rfl rfl rfl rfl rfl rfl rfl (by decide) rfl ?_
    refine AO.gno rfl rfl rfl rfl rfl rfl rfl (by decide) rfl ?_
    refine AO.xs rfl rfl rfl (XS.pickF rfl rfl rfl) ?_
    refine AO.xs rfl rfl rfl (XS.move rfl) ?_
    refine AO.gno rfl rfl rfl rfl rfl rfl rfl (by decide) rfl ?_
    refine AO.gno rfl rfl rfl rfl rfl rfl rfl (by decide) rfl ?_
    refine AO.gno rfl rfl rfl rfl rfl rfl rfl (by decide) rfl ?_
    refine AO.gno rfl rfl rfl rfl rfl rfl rfl (by decide) rfl ?_
    refine AO.gno rfl rfl rfl rfl rfl rfl rfl (by decide) rfl ?_
    refine AO.xs rfl rfl rfl (XS.pickF rfl rfl rfl) ?_
    refine AO.xs rfl rfl rfl (XS.move rfl) ?_
    refine AO.gno rfl rfl rfl rfl rfl rfl rfl (by decide) rfl ?_
    refine AO.gno rfl rfl rfl rfl rfl rfl rfl (by decide) rfl ?_
    refine AO.gno rfl rfl rfl rfl rfl rfl rfl (by decide) rfl ?_
    refine AO.gno rfl rfl rfl rfl rfl rfl rfl (by decide) rfl ?_
    refine AO.gno rfl rfl rfl rfl rfl rfl rfl (by decide) rfl ?_
    refine AO.xs rfl rfl rfl (XS.pickF rfl rfl rfl) ?_
    refine AO.xs rfl rfl rfl (XS.assign rfl) ?_
    refine AO.nil ?_
    refine AW.ret ?_
    exact ⟨_, rfl, congrArg boolD (eqP_no (fun e => hg1n (by rw [e]))).symm⟩

set_option maxRecDepth 100000 in
theorem sameSystemS_c {p q : Sy} (h : p.sm) : AC Try.prog 46 [.ag p.cs, .ag q.cs] (fun d => d = boolD (eqP (p = q))) := by
  refine AC.intro Try.func46 Try.ntmps46 Try.results46 rfl (by simp) (fun w0 T => ?_)
  have hl1 := h.1
  have hl2 := h.2.1
  refine AW.seq ?_
  refine AW.region ?_
  refine AO.box rfl rfl rfl rfl ?_
  refine AO.box rfl rfl rfl rfl ?_
  refine AO.xs rfl rfl rfl (XS.assign rfl) ?_
  refine AO.nil ?_
  refine AW.seq ?_
  refine AW.seq ?_
  refine AW.region ?_
  refine AO.xs rfl rfl rfl (XS.field rfl (fo rfl)) ?_
  refine AO.xs rfl rfl rfl (XS.load rfl (on rfl) rfl rfl) ?_
  refine AO.xs rfl rfl rfl (XS.field rfl (fo rfl)) ?_
  refine AO.xs rfl rfl rfl (XS.load rfl (on rfl) rfl rfl) ?_
  refine AO.xs rfl rfl rfl (XS.int rfl rfl rfl) ?_
  refine AO.xs rfl rfl rfl (XS.move rfl) ?_
  refine AO.split 12 rfl (fun hg1 => ?_) (fun hg1 => ?_)
  · skip
    have hg1n := bne_iff_ne.1 hg1
    refine AO.gno rfl rfl rfl rfl rfl rfl hg1 (by decide) rfl ?_
    refine AO.gno rfl rfl rfl rfl rfl rfl hg1 (by decide) rfl ?_
    refine AO.gno rfl rfl rfl rfl rfl rfl hg1 (by decide) rfl ?_
    refine AO.gno rfl rfl rfl rfl rfl rfl hg1 (by decide) rfl ?_
    refine AO.gno rfl rfl rfl rfl rfl rfl hg1 (by decide) rfl ?_
    refine AO.xs rfl rfl rfl (XS.pickT rfl rfl hg1) ?_
    refine AO.xs rfl rfl rfl (XS.move rfl) ?_
    refine AO.gno rfl rfl rfl rfl rfl rfl rfl (by decide) rfl ?_
    refine AO.gno rfl rfl rfl rfl rfl rfl rfl (by decide) rfl ?_
    refine AO.gno rfl rfl rfl rfl rfl rfl rfl (by decide) rfl ?_
    refine AO.gno rfl rfl rfl rfl rfl rfl rfl (by decide) rfl ?_
    refine AO.gno rfl rfl rfl rfl rfl rfl rfl (by decide) rfl ?_
    refine AO.xs rfl rfl rfl (XS.pickT rfl rfl rfl) ?_
    refine AO.xs rfl rfl rfl (XS.move rfl) ?_
    refine AO.gno rfl rfl rfl rfl rfl rfl rfl (by decide) rfl ?_
    refine AO.gno rfl rfl rfl rfl rfl rfl rfl (by decide) rfl ?_
    refine AO.gno rfl rfl rfl rfl rfl rfl rfl (by decide) rfl ?_
    refine AO.gno rfl rfl rfl rfl rfl rfl rfl (by decide) rfl ?_
    refine AO.gno rfl rfl rfl rfl rfl rfl rfl (by decide) rfl ?_
    refine AO.xs rfl rfl rfl (XS.pickT rfl rfl rfl) ?_
    refine AO.xs rfl rfl rfl (XS.move rfl) ?_
    refine AO.gno rfl rfl rfl rfl rfl rfl rfl (by decide) rfl ?_
    refine AO.gno rfl rfl rfl rfl rfl rfl rfl (by decide) rfl ?_
    refine AO.gno rfl rfl rfl rfl rfl rfl rfl (by decide) rfl ?_
    refine AO.gno rfl rfl rfl rfl rfl rfl rfl (by decide) rfl ?_
    refine AO.gno rfl rfl rfl rfl rfl rfl rfl (by decide) rfl ?_
    refine AO.xs rfl rfl rfl (XS.pickT rfl rfl rfl) ?_
    refine AO.xs rfl rfl rfl (XS.move rfl) ?_
    refine AO.gno rfl rfl rfl rfl rfl rfl rfl (by decide) rfl ?_
    refine AO.gno rfl rfl rfl rfl rfl rfl rfl (by decide) rfl ?_
    refine AO.gno rfl rfl rfl rfl rfl rfl rfl (by decide) rfl ?_
    refine AO.gno rfl rfl rfl rfl rfl rfl rfl (by decide) rfl ?_
    refine AO.gno rfl rfl rfl rfl rfl rfl rfl (by decide) rfl ?_
    refine AO.gno rfl rfl rfl rfl rfl rfl rfl (by decide) rfl ?_
    refine AO.gno rfl rfl rfl rfl rfl rfl rfl (by decide) rfl ?_
    refine AO.xs rfl rfl rfl (XS.pickT rfl rfl rfl) ?_
    refine AO.xs rfl rfl rfl (XS.move rfl) ?_
    refine AO.gno rfl rfl rfl rfl rfl rfl rfl (by decide) rfl ?_
    refine AO.gno rfl rfl rfl rfl rfl rfl rfl (by decide) rfl ?_
    refine AO.gno rfl rfl rfl rfl rfl rfl rfl (by decide) rfl ?_
    refine AO.gno rfl rfl rfl rfl rfl rfl rfl (by decide) rfl ?_
    refine AO.gno rfl rfl rfl rfl rfl rfl rfl (by decide) rfl ?_
    refine AO.gno rfl rfl rfl rfl rfl rfl rfl (by decide) rfl ?_
    refine AO.gno rfl rfl rfl rfl rfl rfl rfl (by decide) rfl ?_
    refine AO.xs rfl rfl rfl (XS.pickT rfl rfl rfl) ?_
    refine AO.nil ?_
    refine AW.condT rfl rfl ?_
    refine AW.seq ?_
    refine AW.region ?_
    refine AO.xs rfl rfl rfl (XS.assign rfl) ?_
    refine AO.nil ?_
    refine AW.ret ?_
    exact ⟨_, rfl, congrArg boolD (eqP_no (fun e => hg1n (by rw [e]))).symm⟩
  · skip
    have hg1n := bne_eq_false_iff_eq.1 hg1
    refine AO.gyes rfl rfl rfl rfl rfl rfl hg1 rfl (XS.field rfl (fo rfl)) ?_
    refine AO.gyes rfl rfl rfl rfl rfl rfl hg1 rfl (XS.load rfl (on rfl) rfl rfl) ?_
    refine AO.gyes rfl rfl rfl rfl rfl rfl hg1 rfl (XS.field rfl (fo rfl)) ?_
    refine AO.gyes rfl rfl rfl rfl rfl rfl hg1 rfl (XS.load rfl (on rfl) rfl rfl) ?_
    refine AO.gyes rfl rfl rfl rfl rfl rfl hg1 rfl (XS.int rfl rfl rfl) ?_
    refine AO.xs rfl rfl rfl (XS.pickF rfl rfl hg1) ?_
    refine AO.xs rfl rfl rfl (XS.move rfl) ?_
    refine AO.split 19 rfl (fun hg2 => ?_) (fun hg2 => ?_)
    · skip
      have hg2n := bne_iff_ne.1 hg2
      refine AO.gno rfl rfl rfl rfl rfl rfl hg2 (by decide) rfl ?_
      refine AO.gno rfl rfl rfl rfl rfl rfl hg2 (by decide) rfl ?_
      refine AO.gno rfl rfl rfl rfl rfl rfl hg2 (by decide) rfl ?_
      refine AO.gno rfl rfl rfl rfl rfl rfl hg2 (by decide) rfl ?_
      refine AO.gno rfl rfl rfl rfl rfl rfl hg2 (by decide) rfl ?_
      refine AO.xs rfl rfl rfl (XS.pickT rfl rfl hg2) ?_
      refine AO.xs rfl rfl rfl (XS.move rfl) ?_
      refine AO.gno rfl rfl rfl rfl rfl rfl rfl (by decide) rfl ?_
      refine AO.gno rfl rfl rfl rfl rfl rfl rfl (by decide) rfl ?_
      refine AO.gno rfl rfl rfl rfl rfl rfl rfl (by decide) rfl ?_
      refine AO.gno rfl rfl rfl rfl rfl rfl rfl (by decide) rfl ?_
      refine AO.gno rfl rfl rfl rfl rfl rfl rfl (by decide) rfl ?_
      refine AO.xs rfl rfl rfl (XS.pickT rfl rfl rfl) ?_
      refine AO.xs rfl rfl rfl (XS.move rfl) ?_
      refine AO.gno rfl rfl rfl rfl rfl rfl rfl (by decide) rfl ?_
      refine AO.gno rfl rfl rfl rfl rfl rfl rfl (by decide) rfl ?_
      refine AO.gno rfl rfl rfl rfl rfl rfl rfl (by decide) rfl ?_
      refine AO.gno rfl rfl rfl rfl rfl rfl rfl (by decide) rfl ?_
      refine AO.gno rfl rfl rfl rfl rfl rfl rfl (by decide) rfl ?_
      refine AO.xs rfl rfl rfl (XS.pickT rfl rfl rfl) ?_
      refine AO.xs rfl rfl rfl (XS.move rfl) ?_
      refine AO.gno rfl rfl rfl rfl rfl rfl rfl (by decide) rfl ?_
      refine AO.gno rfl rfl rfl rfl rfl rfl rfl (by decide) rfl ?_
      refine AO.gno rfl rfl rfl rfl rfl rfl rfl (by decide) rfl ?_
      refine AO.gno rfl rfl rfl rfl rfl rfl rfl (by decide) rfl ?_
      refine AO.gno rfl rfl rfl rfl rfl rfl rfl (by decide) rfl ?_
      refine AO.gno rfl rfl rfl rfl rfl rfl rfl (by decide) rfl ?_
      refine AO.gno rfl rfl rfl rfl rfl rfl rfl (by decide) rfl ?_
      refine AO.xs rfl rfl rfl (XS.pickT rfl rfl rfl) ?_
      refine AO.xs rfl rfl rfl (XS.move rfl) ?_
      refine AO.gno rfl rfl rfl rfl rfl rfl rfl (by decide) rfl ?_
      refine AO.gno rfl rfl rfl rfl rfl rfl rfl (by decide) rfl ?_
      refine AO.gno rfl rfl rfl rfl rfl rfl rfl (by decide) rfl ?_
      refine AO.gno rfl rfl rfl rfl rfl rfl rfl (by decide) rfl ?_
      refine AO.gno rfl rfl rfl rfl rfl rfl rfl (by decide) rfl ?_
      refine AO.gno rfl rfl rfl rfl rfl rfl rfl (by decide) rfl ?_
      refine AO.gno rfl rfl rfl rfl rfl rfl rfl (by decide) rfl ?_
      refine AO.xs rfl rfl rfl (XS.pickT rfl rfl rfl) ?_
      refine AO.nil ?_
      refine AW.condT rfl rfl ?_
      refine AW.seq ?_
      refine AW.region ?_
      refine AO.xs rfl rfl rfl (XS.assign rfl) ?_
      refine AO.nil ?_
      refine AW.ret ?_
      exact ⟨_, rfl, congrArg boolD (eqP_no (fun e => hg2n (by rw [e]))).symm⟩
    · skip
      have hg2n := bne_eq_false_iff_eq.1 hg2
      refine AO.gyes rfl rfl rfl rfl rfl rfl hg2 rfl (XS.field rfl (fo rfl)) ?_
      refine AO.gyes rfl rfl rfl rfl rfl rfl hg2 rfl (XS.load rfl (on rfl) rfl rfl) ?_
      refine AO.gyes rfl rfl rfl rfl rfl rfl hg2 rfl (XS.field rfl (fo rfl)) ?_
      refine AO.gyes rfl rfl rfl rfl rfl rfl hg2 rfl (XS.load rfl (on rfl) rfl rfl) ?_
      refine AO.gyes rfl rfl rfl rfl rfl rfl hg2 rfl (XS.int rfl rfl rfl) ?_
      refine AO.xs rfl rfl rfl (XS.pickF rfl rfl hg2) ?_
      refine AO.xs rfl rfl rfl (XS.move rfl) ?_
      refine AO.split 26 rfl (fun hg3 => ?_) (fun hg3 => ?_)
      · skip
        have hg3n := bne_iff_ne.1 hg3
        refine AO.gno rfl rfl rfl rfl rfl rfl hg3 (by decide) rfl ?_
        refine AO.gno rfl rfl rfl rfl rfl rfl hg3 (by decide) rfl ?_
        refine AO.gno rfl rfl rfl rfl rfl rfl hg3 (by decide) rfl ?_
        refine AO.gno rfl rfl rfl rfl rfl rfl hg3 (by decide) rfl ?_
        refine AO.gno rfl rfl rfl rfl rfl rfl hg3 (by decide) rfl ?_
        refine AO.xs rfl rfl rfl (XS.pickT rfl rfl hg3) ?_
        refine AO.xs rfl rfl rfl (XS.move rfl) ?_
        refine AO.gno rfl rfl rfl rfl rfl rfl rfl (by decide) rfl ?_
        refine AO.gno rfl rfl rfl rfl rfl rfl rfl (by decide) rfl ?_
        refine AO.gno rfl rfl rfl rfl rfl rfl rfl (by decide) rfl ?_
        refine AO.gno rfl rfl rfl rfl rfl rfl rfl (by decide) rfl ?_
        refine AO.gno rfl rfl rfl rfl rfl rfl rfl (by decide) rfl ?_
        refine AO.xs rfl rfl rfl (XS.pickT rfl rfl rfl) ?_
        refine AO.xs rfl rfl rfl (XS.move rfl) ?_
        refine AO.gno rfl rfl rfl rfl rfl rfl rfl (by decide) rfl ?_
        refine AO.gno rfl rfl rfl rfl rfl rfl rfl (by decide) rfl ?_
        refine AO.gno rfl rfl rfl rfl rfl rfl rfl (by decide) rfl ?_
        refine AO.gno rfl rfl rfl rfl rfl rfl rfl (by decide) rfl ?_
        refine AO.gno rfl rfl rfl rfl rfl rfl rfl (by decide) rfl ?_
        refine AO.gno rfl rfl rfl rfl rfl rfl rfl (by decide) rfl ?_
        refine AO.gno rfl rfl rfl rfl rfl rfl rfl (by decide) rfl ?_
        refine AO.xs rfl rfl rfl (XS.pickT rfl rfl rfl) ?_
        refine AO.xs rfl rfl rfl (XS.move rfl) ?_
        refine AO.gno rfl rfl rfl rfl rfl rfl rfl (by decide) rfl ?_
        refine AO.gno rfl rfl rfl rfl rfl rfl rfl (by decide) rfl ?_
        refine AO.gno rfl rfl rfl rfl rfl rfl rfl (by decide) rfl ?_
        refine AO.gno rfl rfl rfl rfl rfl rfl rfl (by decide) rfl ?_
        refine AO.gno rfl rfl rfl rfl rfl rfl rfl (by decide) rfl ?_
        refine AO.gno rfl rfl rfl rfl rfl rfl rfl (by decide) rfl ?_
        refine AO.gno rfl rfl rfl rfl rfl rfl rfl (by decide) rfl ?_
        refine AO.xs rfl rfl rfl (XS.pickT rfl rfl rfl) ?_
        refine AO.nil ?_
        refine AW.condT rfl rfl ?_
        refine AW.seq ?_
        refine AW.region ?_
        refine AO.xs rfl rfl rfl (XS.assign rfl) ?_
        refine AO.nil ?_
        refine AW.ret ?_
        exact ⟨_, rfl, congrArg boolD (eqP_no (fun e => hg3n (by rw [e]))).symm⟩
      · skip
        have hg3n := bne_eq_false_iff_eq.1 hg3
        refine AO.gyes rfl rfl rfl rfl rfl rfl hg3 rfl (XS.field rfl (fo rfl)) ?_
        refine AO.gyes rfl rfl rfl rfl rfl rfl hg3 rfl (XS.load rfl (on rfl) rfl rfl) ?_
        refine AO.gyes rfl rfl rfl rfl rfl rfl hg3 rfl (XS.field rfl (fo rfl)) ?_
        refine AO.gyes rfl rfl rfl rfl rfl rfl hg3 rfl (XS.load rfl (on rfl) rfl rfl) ?_
        refine AO.gyes rfl rfl rfl rfl rfl rfl hg3 rfl (XS.int rfl rfl rfl) ?_
        refine AO.xs rfl rfl rfl (XS.pickF rfl rfl hg3) ?_
        refine AO.xs rfl rfl rfl (XS.move rfl) ?_
        refine AO.split 33 rfl (fun hg4 => ?_) (fun hg4 => ?_)
        · skip
          have hg4n := bne_iff_ne.1 hg4
          refine AO.gno rfl rfl rfl rfl rfl rfl hg4 (by decide) rfl ?_
          refine AO.gno rfl rfl rfl rfl rfl rfl hg4 (by decide) rfl ?_
          refine AO.gno rfl rfl rfl rfl rfl rfl hg4 (by decide) rfl ?_
          refine AO.gno rfl rfl rfl rfl rfl rfl hg4 (by decide) rfl ?_
          refine AO.gno rfl rfl rfl rfl rfl rfl hg4 (by decide) rfl ?_
          refine AO.xs rfl rfl rfl (XS.pickT rfl rfl hg4) ?_
          refine AO.xs rfl rfl rfl (XS.move rfl) ?_
          refine AO.gno rfl rfl rfl rfl rfl rfl rfl (by decide) rfl ?_
          refine AO.gno rfl rfl rfl rfl rfl rfl rfl (by decide) rfl ?_
          refine AO.gno rfl rfl rfl rfl rfl rfl rfl (by decide) rfl ?_
          refine AO.gno rfl rfl rfl rfl rfl rfl rfl (by decide) rfl ?_
          refine AO.gno rfl rfl rfl rfl rfl rfl rfl (by decide) rfl ?_
          refine AO.gno rfl rfl rfl rfl rfl rfl rfl (by decide) rfl ?_
          refine AO.gno rfl rfl rfl rfl rfl rfl rfl (by decide) rfl ?_
          refine AO.xs rfl rfl rfl (XS.pickT rfl rfl rfl) ?_
          refine AO.xs rfl rfl rfl (XS.move rfl) ?_
          refine AO.gno rfl rfl rfl rfl rfl rfl rfl (by decide) rfl ?_
          refine AO.gno rfl rfl rfl rfl rfl rfl rfl (by decide) rfl ?_
          refine AO.gno rfl rfl rfl rfl rfl rfl rfl (by decide) rfl ?_
          refine AO.gno rfl rfl rfl rfl rfl rfl rfl (by decide) rfl ?_
          refine AO.gno rfl rfl rfl rfl rfl rfl rfl (by decide) rfl ?_
          refine AO.gno rfl rfl rfl rfl rfl rfl rfl (by decide) rfl ?_
          refine AO.gno rfl rfl rfl rfl rfl rfl rfl (by decide) rfl ?_
          refine AO.xs rfl rfl rfl (XS.pickT rfl rfl rfl) ?_
          refine AO.nil ?_
          refine AW.condT rfl rfl ?_
          refine AW.seq ?_
          refine AW.region ?_
          refine AO.xs rfl rfl rfl (XS.assign rfl) ?_
          refine AO.nil ?_
          refine AW.ret ?_
          exact ⟨_, rfl, congrArg boolD (eqP_no (fun e => hg4n (by rw [e]))).symm⟩
        · skip
          have hg4n := bne_eq_false_iff_eq.1 hg4
          refine AO.gyes rfl rfl rfl rfl rfl rfl hg4 rfl (XS.field rfl (fo rfl)) ?_
          refine AO.gyes rfl rfl rfl rfl rfl rfl hg4 rfl (XS.load rfl (on rfl) rfl rfl) ?_
          refine AO.gyes rfl rfl rfl rfl rfl rfl hg4 rfl (XS.field rfl (fo rfl)) ?_
          refine AO.gyes rfl rfl rfl rfl rfl rfl hg4 rfl (XS.load rfl (on rfl) rfl rfl) ?_
          refine AO.gyes rfl rfl rfl rfl rfl rfl hg4 rfl (XS.int rfl rfl rfl) ?_
          refine AO.xs rfl rfl rfl (XS.pickF rfl rfl hg4) ?_
          refine AO.xs rfl rfl rfl (XS.move rfl) ?_
          refine AO.split 40 rfl (fun hg5 => ?_) (fun hg5 => ?_)
          · skip
            have hg5n := bne_iff_ne.1 hg5
            refine AO.gno rfl rfl rfl rfl rfl rfl hg5 (by decide) rfl ?_
            refine AO.gno rfl rfl rfl rfl rfl rfl hg5 (by decide) rfl ?_
            refine AO.gno rfl rfl rfl rfl rfl rfl hg5 (by decide) rfl ?_
            refine AO.gno rfl rfl rfl rfl rfl rfl hg5 (by decide) rfl ?_
            refine AO.gno rfl rfl rfl rfl rfl rfl hg5 (by decide) rfl ?_
            refine AO.gno rfl rfl rfl rfl rfl rfl hg5 (by decide) rfl ?_
            refine AO.gno rfl rfl rfl rfl rfl rfl hg5 (by decide) rfl ?_
            refine AO.xs rfl rfl rfl (XS.pickT rfl rfl hg5) ?_
            refine AO.xs rfl rfl rfl (XS.move rfl) ?_
            refine AO.gno rfl rfl rfl rfl rfl rfl rfl (by decide) rfl ?_
            refine AO.gno rfl rfl rfl rfl rfl rfl rfl (by decide) rfl ?_
            refine AO.gno rfl rfl rfl rfl rfl rfl rfl (by decide) rfl ?_
            refine AO.gno rfl rfl rfl rfl rfl rfl rfl (by decide) rfl ?_
            refine AO.gno rfl rfl rfl rfl rfl rfl rfl (by decide) rfl ?_
            refine AO.gno rfl rfl rfl rfl rfl rfl rfl (by decide) rfl ?_
            refine AO.gno rfl rfl rfl rfl rfl rfl rfl (by decide) rfl ?_
            refine AO.xs rfl rfl rfl (XS.pickT rfl rfl rfl) ?_
            refine AO.nil ?_
            refine AW.condT rfl rfl ?_
            refine AW.seq ?_
            refine AW.region ?_
            refine AO.xs rfl rfl rfl (XS.assign rfl) ?_
            refine AO.nil ?_
            refine AW.ret ?_
            exact ⟨_, rfl, congrArg boolD (eqP_no (fun e => hg5n (by rw [e]))).symm⟩
          · skip
            have hg5n := bne_eq_false_iff_eq.1 hg5
            refine AO.gyes rfl rfl rfl rfl rfl rfl hg5 rfl (XS.field rfl (fo rfl)) ?_
            refine AO.gyes rfl rfl rfl rfl rfl rfl hg5 rfl (XS.load rfl (on rfl) rfl rfl) ?_
            refine AO.gyes rfl rfl rfl rfl rfl rfl hg5 rfl (XS.lenM rfl (el rfl)) ?_
            refine AO.gyes rfl rfl rfl rfl rfl rfl hg5 rfl (XS.field rfl (fo rfl)) ?_
            refine AO.gyes rfl rfl rfl rfl rfl rfl hg5 rfl (XS.load rfl (on rfl) rfl rfl) ?_
            refine AO.gyes rfl rfl rfl rfl rfl rfl hg5 rfl (XS.lenM rfl (el rfl)) ?_
            refine AO.gyes rfl rfl rfl rfl rfl rfl hg5 rfl (XS.int rfl rfl rfl) ?_
            refine AO.xs rfl rfl rfl (XS.pickF rfl rfl hg5) ?_
            refine AO.xs rfl rfl rfl (XS.move rfl) ?_
            refine AO.split 49 rfl (fun hg6 => ?_) (fun hg6 => ?_)
            · skip
              have hg6n := bne_iff_ne.1 hg6
              refine AO.gno rfl rfl rfl rfl rfl rfl hg6 (by decide) rfl ?_
              refine AO.gno rfl rfl rfl rfl rfl rfl hg6 (by decide) rfl ?_
              refine AO.gno rfl rfl rfl rfl rfl rfl hg6 (by decide) rfl ?_
              refine AO.gno rfl rfl rfl rfl rfl rfl hg6 (by decide) rfl ?_
              refine AO.gno rfl rfl rfl rfl rfl rfl hg6 (by decide) rfl ?_
              refine AO.gno rfl rfl rfl rfl rfl rfl hg6 (by decide) rfl ?_
              refine AO.gno rfl rfl rfl rfl rfl rfl hg6 (by decide) rfl ?_
              refine AO.xs rfl rfl rfl (XS.pickT rfl rfl hg6) ?_
              refine AO.nil ?_
              refine AW.condT rfl rfl ?_
              refine AW.seq ?_
              refine AW.region ?_
              refine AO.xs rfl rfl rfl (XS.assign rfl) ?_
              refine AO.nil ?_
              refine AW.ret ?_
              exact ⟨_, rfl, congrArg boolD (eqP_no (fun e => hg6n (by rw [e]))).symm⟩
            · skip
              have hg6n := bne_eq_false_iff_eq.1 hg6
              refine AO.gyes rfl rfl rfl rfl rfl rfl hg6 rfl (XS.field rfl (fo rfl)) ?_
              refine AO.gyes rfl rfl rfl rfl rfl rfl hg6 rfl (XS.load rfl (on rfl) rfl rfl) ?_
              refine AO.gyes rfl rfl rfl rfl rfl rfl hg6 rfl (XS.lenM rfl (el rfl)) ?_
              refine AO.gyes rfl rfl rfl rfl rfl rfl hg6 rfl (XS.field rfl (fo rfl)) ?_
              refine AO.gyes rfl rfl rfl rfl rfl rfl hg6 rfl (XS.load rfl (on rfl) rfl rfl) ?_
              refine AO.gyes rfl rfl rfl rfl rfl rfl hg6 rfl (XS.lenM rfl (el rfl)) ?_
              refine AO.gyes rfl rfl rfl rfl rfl rfl hg6 rfl (XS.int rfl rfl rfl) ?_
              refine AO.xs rfl rfl rfl (XS.pickF rfl rfl hg6) ?_
              refine AO.nil ?_
              refine AW.cond rfl (fun hb7 => ?_) (fun hb7 => ?_)
              · skip
                replace hb7 := bne_iff_ne.1 hb7
                refine AW.seq ?_
                refine AW.region ?_
                refine AO.xs rfl rfl rfl (XS.assign rfl) ?_
                refine AO.nil ?_
                refine AW.ret ?_
                exact ⟨_, rfl, congrArg boolD (eqP_no (fun e => hb7 (by rw [e]))).symm⟩
              · skip
                replace hb7 := bne_eq_false_iff_eq.1 hb7
                refine AW.skip ?_
                refine AW.seq ?_
                refine AW.seq ?_
                refine AW.region ?_
                refine AO.xs rfl rfl rfl (XS.assign rfl) ?_
                refine AO.nil ?_
                refine AW.block ?_
                refine AW.loop [2, 3] (fun i => [(5, .d (intD ((i : Nat) : Int)))]) (fun _ => _) (fun i => i ≤ p.la.length ∧ p.la.take i = q.la.take i) (fun i => p.la.length - i) (0) ⟨Nat.zero_le _, by simp⟩ ⟨rfl, trivial⟩ ⟨⟨_, rfl, rfl⟩, ⟨_, rfl, rfl⟩, trivial⟩ rfl ?_
                intro i ⟨hi, hk⟩
                refine AW.seq ?_
                refine AW.seq ?_
                refine AW.region ?_
                refine AO.xs rfl rfl rfl (XS.move rfl) ?_
                refine AO.xs rfl rfl rfl (XS.field rfl (fo rfl)) ?_
                refine AO.xs rfl rfl rfl (XS.load rfl (on rfl) rfl rfl) ?_
                refine AO.xs rfl rfl rfl (XS.lenM rfl (el rfl)) ?_
                refine AO.xs rfl rfl rfl (XS.int rfl rfl rfl) ?_
                refine AO.nil ?_
                refine AW.cond rfl (fun hb8 => ?_) (fun hb8 => ?_)
                · skip
                  replace hb8 := of_decide_eq_true hb8
                  refine AW.skip ?_
                  refine AW.seq ?_
                  refine AW.block ?_
                  refine AW.seq ?_
                  refine AW.drawn mix ?_
                  refine DC.cons rfl rfl rfl (XS.field rfl (fo rfl)) ?_
                  refine DC.cons rfl rfl rfl (XS.load rfl (on rfl) rfl rfl) ?_
                  refine DC.cons rfl rfl rfl (XS.move rfl) ?_
                  refine DC.cons rfl rfl rfl (XS.indexM rfl rfl (el rfl) (by omega) rfl) ?_
                  refine DC.cons rfl rfl rfl (XS.loadE rfl (on rfl) rfl) ?_
                  refine DC.cons rfl rfl rfl (XS.field rfl (fo rfl)) ?_
                  refine DC.cons rfl rfl rfl (XS.load rfl (on rfl) rfl rfl) ?_
                  refine DC.cons rfl rfl rfl (XS.move rfl) ?_
                  refine DC.cons rfl rfl rfl (XS.indexM rfl rfl (el rfl) (by omega) rfl) ?_
                  refine DC.cons rfl rfl rfl (XS.loadE rfl (on rfl) rfl) ?_
                  refine DC.cons rfl rfl rfl (XS.int rfl rfl rfl) ?_
                  refine DC.done (by kernel_rfl) ?_
                  refine AO.nil ?_
                  refine AW.cond rfl (fun hb9 => ?_) (fun hb9 => ?_)
                  · skip
                    replace hb9 := bne_iff_ne.1 hb9
                    refine AW.seq ?_
                    refine AW.region ?_
                    refine AO.xs rfl rfl rfl (XS.assign rfl) ?_
                    refine AO.nil ?_
                    refine AW.ret ?_
                    exact ⟨_, rfl, congrArg boolD (eqP_no (fun e => hb9 (by subst e; rfl))).symm⟩
                  · skip
                    replace hb9 := bne_eq_false_iff_eq.1 hb9
                    refine AW.skip ?_
                    refine AW.region ?_
                    refine AO.xs rfl rfl rfl (XS.move rfl) ?_
                    refine AO.xs rfl rfl rfl (XS.addI rfl rfl (by omega)) ?_
                    refine AO.xs rfl rfl rfl (XS.assign rfl) ?_
                    refine AO.nil ?_
                    exact ⟨i + 1, ⟨by omega, take_next (by omega) (by omega) hk hb9⟩, (by dsimp only; omega), ⟨rfl, trivial⟩, ⟨⟨_, rfl, rfl⟩, ⟨_, rfl, rfl⟩, trivial⟩, rfl⟩
                · skip
                  replace hb8 := of_decide_eq_false hb8
                  obtain rfl : i = p.la.length := by omega
                  have hla := take_all hk (by omega)
                  refine AW.exit ?_
                  refine AW.seq ?_
                  refine AW.seq ?_
                  refine AW.region ?_
                  refine AO.xs rfl rfl rfl (XS.assign rfl) ?_
                  refine AO.nil ?_
                  refine AW.block ?_
                  refine AW.loop [2, 3] (fun i => [(6, .d (intD ((i : Nat) : Int)))]) (fun _ => _) (fun i => i ≤ p.ro.length ∧ p.ro.take i = q.ro.take i) (fun i => p.ro.length - i) (0) ⟨Nat.zero_le _, by simp⟩ ⟨rfl, trivial⟩ ⟨⟨_, rfl, rfl⟩, ⟨_, rfl, rfl⟩, trivial⟩ rfl ?_
                  intro j ⟨hj, hq⟩
                  refine AW.seq ?_
                  refine AW.seq ?_
                  refine AW.region ?_
                  refine AO.xs rfl rfl rfl (XS.move rfl) ?_
                  refine AO.xs rfl rfl rfl (XS.field rfl (fo rfl)) ?_
                  refine AO.xs rfl rfl rfl (XS.load rfl (on rfl) rfl rfl) ?_
                  refine AO.xs rfl rfl rfl (XS.lenM rfl (el rfl)) ?_
                  refine AO.xs rfl rfl rfl (XS.int rfl rfl rfl) ?_
                  refine AO.nil ?_
                  refine AW.cond rfl (fun hb10 => ?_) (fun hb10 => ?_)
                  · skip
                    replace hb10 := of_decide_eq_true hb10
                    have hj2 : j < p.ro.length := by omega
                    have hj3 : j < q.ro.length := by omega
                    have hr := h.2.2 _ (List.getElem_mem hj2)
                    refine AW.skip ?_
                    refine AW.seq ?_
                    refine AW.block ?_
                    refine AW.seq ?_
                    refine AW.drawn mix ?_
                    refine DC.cons rfl rfl rfl (XS.field rfl (fo rfl)) ?_
                    refine DC.cons rfl rfl rfl (XS.load rfl (on rfl) rfl rfl) ?_
                    refine DC.cons rfl rfl rfl (XS.move rfl) ?_
                    refine DC.cons rfl rfl rfl (XS.indexM rfl rfl (el rfl) (by omega) rfl) ?_
                    refine DC.cons rfl rfl rfl (XS.fieldE rfl (fo rfl)) ?_
                    refine DC.cons rfl rfl rfl (XS.loadE rfl (on rfl) rfl) ?_
                    refine DC.cons rfl rfl rfl (XS.field rfl (fo rfl)) ?_
                    refine DC.cons rfl rfl rfl (XS.load rfl (on rfl) rfl rfl) ?_
                    refine DC.cons rfl rfl rfl (XS.move rfl) ?_
                    refine DC.cons rfl rfl rfl (XS.indexM rfl rfl (el rfl) (by omega) rfl) ?_
                    refine DC.cons rfl rfl rfl (XS.fieldE rfl (fo rfl)) ?_
                    refine DC.cons rfl rfl rfl (XS.loadE rfl (on rfl) rfl) ?_
                    refine DC.cons rfl rfl rfl (XS.call rfl (by kernel_rfl) rfl (sameComboS_c hr.1)) ?_
                    refine DC.cons rfl rfl rfl (XS.not rfl) ?_
                    refine DC.cons rfl rfl rfl (XS.move rfl) ?_
                    refine DC.split 97 rfl (fun hg11 => ?_) (fun hg11 => ?_)
                    · skip
                      have hg11n := eqP_false.1 (notT hg11)
                      refine DC.gno rfl rfl rfl rfl rfl rfl hg11 (by decide) rfl ?_
                      refine DC.gno rfl rfl rfl rfl rfl rfl hg11 (by decide) rfl ?_
                      refine DC.gno rfl rfl rfl rfl rfl rfl hg11 (by decide) rfl ?_
                      refine DC.gno rfl rfl rfl rfl rfl rfl hg11 (by decide) rfl ?_
                      refine DC.gno rfl rfl rfl rfl rfl rfl hg11 (by decide) rfl ?_
                      refine DC.gno rfl rfl rfl rfl rfl rfl hg11 (by decide) rfl ?_
                      refine DC.gno rfl rfl rfl rfl rfl rfl hg11 (by decide) rfl ?_
                      refine DC.gno rfl rfl rfl rfl rfl rfl hg11 (by decide) rfl ?_
                      refine DC.gno rfl rfl rfl rfl rfl rfl hg11 (by decide) rfl ?_
                      refine DC.gno rfl rfl rfl rfl rfl rfl hg11 (by decide) rfl ?_
                      refine DC.gno rfl rfl rfl rfl rfl rfl hg11 (by decide) rfl ?_
                      refine DC.gno rfl rfl rfl rfl rfl rfl hg11 (by decide) rfl ?_
                      refine DC.gno rfl rfl rfl rfl rfl rfl hg11 (by decide) rfl ?_
                      refine DC.gno rfl rfl rfl rfl rfl rfl hg11 (by decide) rfl ?_
                      refine DC.cons rfl rfl rfl (XS.pickT rfl rfl hg11) ?_
                      refine DC.cons rfl rfl rfl (XS.move rfl) ?_
                      refine DC.gno rfl rfl rfl rfl rfl rfl rfl (by decide) rfl ?_
                      refine DC.gno rfl rfl rfl rfl rfl rfl rfl (by decide) rfl ?_
                      refine DC.gno rfl rfl rfl rfl rfl rfl rfl (by decide) rfl ?_
                      refine DC.gno rfl rfl rfl rfl rfl rfl rfl (by decide) rfl ?_
                      refine DC.gno rfl rfl rfl rfl rfl rfl rfl (by decide) rfl ?_
                      refine DC.gno rfl rfl rfl rfl rfl rfl rfl (by decide) rfl ?_
                      refine DC.gno rfl rfl rfl rfl rfl rfl rfl (by decide) rfl ?_
                      refine DC.gno rfl rfl rfl rfl rfl rfl rfl (by decide) rfl ?_
                      refine DC.gno rfl rfl rfl rfl rfl rfl rfl (by decide) rfl ?_
                      refine DC.gno rfl rfl rfl rfl rfl rfl rfl (by decide) rfl ?_
                      refine DC.gno rfl rfl rfl rfl rfl rfl rfl (by decide) rfl ?_
                      refine DC.gno rfl rfl rfl rfl rfl rfl rfl (by decide) rfl ?_
                      refine DC.gno rfl rfl rfl rfl rfl rfl rfl (by decide) rfl ?_
                      refine DC.gno rfl rfl rfl rfl rfl rfl rfl (by decide) rfl ?_
                      refine DC.cons rfl rfl rfl (XS.pickT rfl rfl rfl) ?_
                      refine DC.done (by kernel_rfl) ?_
                      refine AO.nil ?_
                      refine AW.condT rfl rfl ?_
                      refine AW.seq ?_
                      refine AW.region ?_
                      refine AO.xs rfl rfl rfl (XS.assign rfl) ?_
                      refine AO.nil ?_
                      refine AW.ret ?_
                      exact ⟨_, rfl, congrArg boolD (eqP_no (fun e => hg11n (by subst e; rfl))).symm⟩
                    · skip
                      have hg11n := eqP_iff.1 (notF hg11)
                      refine DC.gyes rfl rfl rfl rfl rfl rfl hg11 rfl (XS.field rfl (fo rfl)) ?_
                      refine DC.gyes rfl rfl rfl rfl rfl rfl hg11 rfl (XS.load rfl (on rfl) rfl rfl) ?_
                      refine DC.gyes rfl rfl rfl rfl rfl rfl hg11 rfl (XS.move rfl) ?_
                      refine DC.gyes rfl rfl rfl rfl rfl rfl hg11 rfl (XS.indexM rfl rfl (el rfl) (by omega) rfl) ?_
                      refine DC.gyes rfl rfl rfl rfl rfl rfl hg11 rfl (XS.fieldE rfl (fo rfl)) ?_
                      refine DC.gyes rfl rfl rfl rfl rfl rfl hg11 rfl (XS.loadE rfl (on rfl) rfl) ?_
                      refine DC.gyes rfl rfl rfl rfl rfl rfl hg11 rfl (XS.field rfl (fo rfl)) ?_
                      refine DC.gyes rfl rfl rfl rfl rfl rfl hg11 rfl (XS.load rfl (on rfl) rfl rfl) ?_
                      refine DC.gyes rfl rfl rfl rfl rfl rfl hg11 rfl (XS.move rfl) ?_
                      refine DC.gyes rfl rfl rfl rfl rfl rfl hg11 rfl (XS.indexM rfl rfl (el rfl) (by omega) rfl) ?_
                      refine DC.gyes rfl rfl rfl rfl rfl rfl hg11 rfl (XS.fieldE rfl (fo rfl)) ?_
                      refine DC.gyes rfl rfl rfl rfl rfl rfl hg11 rfl (XS.loadE rfl (on rfl) rfl) ?_
                      refine DC.gyes rfl rfl rfl rfl rfl rfl hg11 rfl (XS.call rfl (by kernel_rfl) rfl (sameComboS_c hr.2.1)) ?_
                      refine DC.gyes rfl rfl rfl rfl rfl rfl hg11 rfl (XS.not rfl) ?_
                      refine DC.cons rfl rfl rfl (XS.pickF rfl rfl hg11) ?_
                      refine DC.cons rfl rfl rfl (XS.move rfl) ?_
                      refine DC.split 113 rfl (fun hg12 => ?_) (fun hg12 => ?_)
                      · skip
                        have hg12n := eqP_false.1 (notT hg12)
                        refine DC.gno rfl rfl rfl rfl rfl rfl hg12 (by decide) rfl ?_
                        refine DC.gno rfl rfl rfl rfl rfl rfl hg12 (by decide) rfl ?_
                        refine DC.gno rfl rfl rfl rfl rfl rfl hg12 (by decide) rfl ?_
                        refine DC.gno rfl rfl rfl rfl rfl rfl hg12 (by decide) rfl ?_
                        refine DC.gno rfl rfl rfl rfl rfl rfl hg12 (by decide) rfl ?_
                        refine DC.gno rfl rfl rfl rfl rfl rfl hg12 (by decide) rfl ?_
                        refine DC.gno rfl rfl rfl rfl rfl rfl hg12 (by decide) rfl ?_
                        refine DC.gno rfl rfl rfl rfl rfl rfl hg12 (by decide) rfl ?_
                        refine DC.gno rfl rfl rfl rfl rfl rfl hg12 (by decide) rfl ?_
                        refine DC.gno rfl rfl rfl rfl rfl rfl hg12 (by decide) rfl ?_
                        refine DC.gno rfl rfl rfl rfl rfl rfl hg12 (by decide) rfl ?_
                        refine DC.gno rfl rfl rfl rfl rfl rfl hg12 (by decide) rfl ?_
                        refine DC.gno rfl rfl rfl rfl rfl rfl hg12 (by decide) rfl ?_
                        refine DC.gno rfl rfl rfl rfl rfl rfl hg12 (by decide) rfl ?_
                        refine DC.cons rfl rfl rfl (XS.pickT rfl rfl hg12) ?_
                        refine DC.done (by kernel_rfl) ?_
                        refine AO.nil ?_
                        refine AW.condT rfl rfl ?_
                        refine AW.seq ?_
                        refine AW.region ?_
                        refine AO.xs rfl rfl rfl (XS.assign rfl) ?_
                        refine AO.nil ?_
                        refine AW.ret ?_
                        exact ⟨_, rfl, congrArg boolD (eqP_no (fun e => hg12n (by subst e; rfl))).symm⟩
                      · skip
                        have hg12n := eqP_iff.1 (notF hg12)
                        refine DC.gyes rfl rfl rfl rfl rfl rfl hg12 rfl (XS.field rfl (fo rfl)) ?_
                        refine DC.gyes rfl rfl rfl rfl rfl rfl hg12 rfl (XS.load rfl (on rfl) rfl rfl) ?_
                        refine DC.gyes rfl rfl rfl rfl rfl rfl hg12 rfl (XS.move rfl) ?_
                        refine DC.gyes rfl rfl rfl rfl rfl rfl hg12 rfl (XS.indexM rfl rfl (el rfl) (by omega) rfl) ?_
                        refine DC.gyes rfl rfl rfl rfl rfl rfl hg12 rfl (XS.fieldE rfl (fo rfl)) ?_
                        refine DC.gyes rfl rfl rfl rfl rfl rfl hg12 rfl (XS.loadE rfl (on rfl) rfl) ?_
                        refine DC.gyes rfl rfl rfl rfl rfl rfl hg12 rfl (XS.field rfl (fo rfl)) ?_
                        refine DC.gyes rfl rfl rfl rfl rfl rfl hg12 rfl (XS.load rfl (on rfl) rfl rfl) ?_
                        refine DC.gyes rfl rfl rfl rfl rfl rfl hg12 rfl (XS.move rfl) ?_
                        refine DC.gyes rfl rfl rfl rfl rfl rfl hg12 rfl (XS.indexM rfl rfl (el rfl) (by omega) rfl) ?_
                        refine DC.gyes rfl rfl rfl rfl rfl rfl hg12 rfl (XS.fieldE rfl (fo rfl)) ?_
                        refine DC.gyes rfl rfl rfl rfl rfl rfl hg12 rfl (XS.loadE rfl (on rfl) rfl) ?_
                        refine DC.gyes rfl rfl rfl rfl rfl rfl hg12 rfl (XS.call rfl (by kernel_rfl) rfl (sameComboS_c hr.2.2)) ?_
                        refine DC.gyes rfl rfl rfl rfl rfl rfl hg12 rfl (XS.not rfl) ?_
                        refine DC.cons rfl rfl rfl (XS.pickF rfl rfl hg12) ?_
                        refine DC.done (by kernel_rfl) ?_
                        refine AO.nil ?_
                        refine AW.cond rfl (fun hb13 => ?_) (fun hb13 => ?_)
                        · skip
                          replace hb13 := eqP_false.1 (notT hb13)
                          refine AW.seq ?_
                          refine AW.region ?_
                          refine AO.xs rfl rfl rfl (XS.assign rfl) ?_
                          refine AO.nil ?_
                          refine AW.ret ?_
                          exact ⟨_, rfl, congrArg boolD (eqP_no (fun e => hb13 (by subst e; rfl))).symm⟩
                        · skip
                          replace hb13 := eqP_iff.1 (notF hb13)
                          refine AW.skip ?_
                          refine AW.region ?_
                          refine AO.xs rfl rfl rfl (XS.move rfl) ?_
                          refine AO.xs rfl rfl rfl (XS.addI rfl rfl (by omega)) ?_
                          refine AO.xs rfl rfl rfl (XS.assign rfl) ?_
                          refine AO.nil ?_
                          exact ⟨j + 1, ⟨by omega, take_next hj2 hj3 hq (Rw.ext_iff.2 ⟨hg11n, hg12n, hb13⟩)⟩, (by dsimp only; omega), ⟨rfl, trivial⟩, ⟨⟨_, rfl, rfl⟩, ⟨_, rfl, rfl⟩, trivial⟩, rfl⟩
                  · skip
                    replace hb10 := of_decide_eq_false hb10
                    refine AW.exit ?_
                    refine AW.seq ?_
                    refine AW.region ?_
                    refine AO.xs rfl rfl rfl (XS.assign rfl) ?_
                    refine AO.nil ?_
                    refine AW.ret ?_
                    obtain rfl : j = p.ro.length := by omega
                    exact ⟨_, rfl, congrArg boolD (eqP_yes (Sy.ext_iff.2 ⟨hg1n, hg2n, hg3n, hg4n, hg5n, hla, take_all hq (by omega)⟩)).symm⟩

set_option maxRecDepth 100000 in
theorem fnSameSystem_c {p q : Sy} (hp : p.ok) (hq : q.ok) : AC Try.prog 10 [.ag p.cs, .ag q.cs] (fun d => d = .im (.bool true)) := by
  refine AC.intro Try.func10 Try.ntmps10 Try.results10 rfl (by simp) (fun w0 T => ?_)
  refine AW.seq ?_
  refine AW.region ?_
  refine AO.box rfl rfl rfl rfl ?_
  refine AO.box rfl rfl rfl rfl ?_
  refine AO.xs rfl rfl rfl (XS.assign rfl) ?_
  refine AO.nil ?_
  refine AW.seq ?_
  refine AW.region ?_
  refine AO.xs rfl rfl rfl (XS.assign rfl) ?_
  refine AO.nil ?_
  refine AW.seq ?_
  refine AW.region ?_
  refine AO.xs rfl rfl rfl (XS.loadA rfl (ro rfl) (sz rfl) rfl (Nat.le_of_ble_eq_true rfl)) ?_
  refine AO.xs rfl rfl rfl (XS.move rfl) ?_
  refine AO.xs rfl rfl rfl (XS.call rfl (by kernel_rfl) rfl (szSystem_c (by omega) hp)) ?_
  refine AO.xs rfl rfl rfl (XS.assign rfl) ?_
  refine AO.nil ?_
  refine AW.seq ?_
  refine AW.seq ?_
  refine AW.region ?_
  refine AO.xs rfl rfl rfl (XS.move rfl) ?_
  refine AO.xs rfl rfl rfl (XS.int rfl rfl rfl) ?_
  refine AO.nil ?_
  refine AW.cond rfl (fun hb1 => ?_) (fun hb1 => ?_)
  · skip
    replace hb1 := of_decide_eq_true hb1
    refine AW.seq ?_
    refine AW.region ?_
    refine AO.xs rfl rfl rfl (XS.assign rfl) ?_
    refine AO.nil ?_
    refine AW.ret ?_
    exact ⟨_, rfl, rfl⟩
  · skip
    replace hb1 := of_decide_eq_false hb1
    have k1 := left_ge hb1
    have hs := Sy.sm_of (show p.n ≤ 1048576 by omega)
    refine AW.skip ?_
    refine AW.seq ?_
    refine AW.region ?_
    refine AO.xs rfl rfl rfl (XS.loadA rfl (ro rfl) (sz rfl) rfl (Nat.le_of_ble_eq_true rfl)) ?_
    refine AO.xs rfl rfl rfl (XS.move rfl) ?_
    refine AO.xs rfl rfl rfl (XS.call rfl (by kernel_rfl) rfl (szSystem_c (by omega) hq)) ?_
    refine AO.xs rfl rfl rfl (XS.assign rfl) ?_
    refine AO.nil ?_
    refine AW.seq ?_
    refine AW.seq ?_
    refine AW.region ?_
    refine AO.xs rfl rfl rfl (XS.move rfl) ?_
    refine AO.xs rfl rfl rfl (XS.int rfl rfl rfl) ?_
    refine AO.nil ?_
    refine AW.cond rfl (fun hb2 => ?_) (fun hb2 => ?_)
    · skip
      replace hb2 := of_decide_eq_true hb2
      refine AW.seq ?_
      refine AW.region ?_
      refine AO.xs rfl rfl rfl (XS.assign rfl) ?_
      refine AO.nil ?_
      refine AW.ret ?_
      exact ⟨_, rfl, rfl⟩
    · skip
      replace hb2 := of_decide_eq_false hb2
      have k2 := left_ge hb2
      have ht := Sy.sm_of (show q.n ≤ 1048576 by omega)
      refine AW.skip ?_
      refine AW.seq ?_
      refine AW.drawn mix ?_
      refine DC.cons rfl rfl rfl (XS.loadA rfl (ro rfl) (sz rfl) rfl (Nat.le_of_ble_eq_true rfl)) ?_
      refine DC.cons rfl rfl rfl (XS.call rfl (by kernel_rfl) rfl (toSystem_c (by assumption))) ?_
      refine DC.cons rfl rfl rfl (XS.loadA rfl (ro rfl) (sz rfl) rfl (Nat.le_of_ble_eq_true rfl)) ?_
      refine DC.cons rfl rfl rfl (XS.call rfl (by kernel_rfl) rfl (toSystem_c (by assumption))) ?_
      refine DC.cons rfl rfl rfl (XS.call rfl (by kernel_rfl) rfl (sameSystemS_c hs)) ?_
      refine DC.cons rfl rfl rfl (XS.assign rfl) ?_
      refine DC.done (by kernel_rfl) ?_
      refine AO.nil ?_
      refine AW.seq ?_
      refine AW.region ?_
      refine AO.xs rfl rfl rfl (XS.loadA rfl (ro rfl) (sz rfl) rfl (Nat.le_of_ble_eq_true rfl)) ?_
      refine AO.xs rfl rfl rfl (XS.call rfl (by kernel_rfl) rfl (toSystem_c (by assumption))) ?_
      refine AO.alloc rfl rfl (ze rfl) ?_
      refine AO.store rfl rfl rfl rfl (sz rfl) rfl rfl rfl rfl ?_
      refine AO.nil ?_
      refine AW.seq ?_
      refine AW.region ?_
      refine AO.xs rfl rfl rfl (XS.loadA rfl (ro rfl) (sz rfl) rfl (Nat.le_of_ble_eq_true rfl)) ?_
      refine AO.xs rfl rfl rfl (XS.call rfl (by kernel_rfl) rfl (toSystem_c (by assumption))) ?_
      refine AO.alloc rfl rfl (ze rfl) ?_
      refine AO.store rfl rfl rfl rfl (sz rfl) rfl rfl rfl rfl ?_
      refine AO.nil ?_
      refine AW.seq ?_
      refine AW.region ?_
      refine AO.xs rfl rfl rfl (XS.loadA rfl (ro rfl) (sz rfl) rfl (Nat.le_of_ble_eq_true rfl)) ?_
      refine AO.xs rfl rfl rfl (XS.loadA rfl (ro rfl) (sz rfl) rfl (Nat.le_of_ble_eq_true rfl)) ?_
      refine AO.xs rfl rfl rfl (XS.call rfl (by kernel_rfl) rfl (sameSystemI_c hs)) ?_
      refine AO.xs rfl rfl rfl (XS.assign rfl) ?_
      refine AO.nil ?_
      refine AW.seq ?_
      refine AW.seq ?_
      refine AW.region ?_
      refine AO.xs rfl rfl rfl (XS.move rfl) ?_
      refine AO.xs rfl rfl rfl (XS.move rfl) ?_
      refine AO.xs rfl rfl rfl (XS.boolNe rfl rfl (bo rfl)) ?_
      refine AO.nil ?_
      refine AW.cond rfl (fun hb3 => ?_) (fun hb3 => ?_)
      · skip
        replace hb3 := bne_iff_ne.1 hb3
        exact absurd rfl hb3
      · skip
        replace hb3 := bne_eq_false_iff_eq.1 hb3
        refine AW.skip ?_
        refine AW.seq ?_
        refine AW.seq ?_
        refine AW.drawn mix ?_
        refine DC.cons rfl rfl rfl (XS.loadA rfl (ro rfl) (sz rfl) rfl (Nat.le_of_ble_eq_true rfl)) ?_
        refine DC.cons rfl rfl rfl (XS.loadA rfl (ro rfl) (sz rfl) rfl (Nat.le_of_ble_eq_true rfl)) ?_
        refine DC.cons rfl rfl rfl (XS.call rfl (by kernel_rfl) rfl (toSystem_c (by assumption))) ?_
        refine DC.cons rfl rfl rfl (XS.call rfl (by kernel_rfl) rfl (eqSystem_c (by assumption))) ?_
        refine DC.cons rfl rfl rfl (XS.not rfl) ?_
        refine DC.done (by kernel_rfl) ?_
        refine AO.nil ?_
        refine AW.cond rfl (fun hb4 => ?_) (fun hb4 => ?_)
        · skip
          replace hb4 := eqP_false.1 (notT hb4)
          exact absurd rfl hb4
        · skip
          replace hb4 := eqP_iff.1 (notF hb4)
          refine AW.skip ?_
          refine AW.seq ?_
          refine AW.seq ?_
          refine AW.drawn mix ?_
          refine DC.cons rfl rfl rfl (XS.loadA rfl (ro rfl) (sz rfl) rfl (Nat.le_of_ble_eq_true rfl)) ?_
          refine DC.cons rfl rfl rfl (XS.loadA rfl (ro rfl) (sz rfl) rfl (Nat.le_of_ble_eq_true rfl)) ?_
          refine DC.cons rfl rfl rfl (XS.call rfl (by kernel_rfl) rfl (toSystem_c (by assumption))) ?_
          refine DC.cons rfl rfl rfl (XS.call rfl (by kernel_rfl) rfl (eqSystem_c (by assumption))) ?_
          refine DC.cons rfl rfl rfl (XS.not rfl) ?_
          refine DC.done (by kernel_rfl) ?_
          refine AO.nil ?_
          refine AW.cond rfl (fun hb5 => ?_) (fun hb5 => ?_)
          · skip
            replace hb5 := eqP_false.1 (notT hb5)
            exact absurd rfl hb5
          · skip
            replace hb5 := eqP_iff.1 (notF hb5)
            refine AW.skip ?_
            refine AW.seq ?_
            refine AW.region ?_
            refine AO.xs rfl rfl rfl (XS.assign rfl) ?_
            refine AO.nil ?_
            refine AW.ret ?_
            exact ⟨_, rfl, rfl⟩

end Go.Proofs.Ytnepbbhcbehilaa.C
