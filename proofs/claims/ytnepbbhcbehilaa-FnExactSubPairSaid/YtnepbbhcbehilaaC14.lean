/-
  OWN WORK, printed by wip/tools/gen.py out of the translation and of the contracts in wip/specs.
-/
import Derived.Test.YtnepbbhcbehilaaC13
namespace Go.Proofs.Ytnepbbhcbehilaa.C
open Go Go.RowKit Go.Proofs.Ytnepbbhcbehilaa.Av Go.Proofs.Ytnepbbhcbehilaa.Ty Go.Proofs.Ytnepbbhcbehilaa.Num
set_option linter.unusedVariables false

set_option maxRecDepth 100000 in
theorem fnSubPair_c {x y : Pr} {p : ByteArray} (hx : x.ok) (hy : y.ok) (hp : p.size ≤ maxLen) : AC Try.prog 13 [.ag x.cs, .ag y.cs, strD p] (fun d => d = .im (.bool true)) := by
  refine AC.intro Try.func13 Try.ntmps13 Try.results13 rfl (by simp) (fun w0 T => ?_)
  simp only [maxLen] at hp
  refine AW.seq ?_
  refine AW.region ?_
  refine AO.box rfl rfl rfl rfl ?_
  refine AO.box rfl rfl rfl rfl ?_
  refine AO.xs rfl rfl rfl (XS.assign rfl) ?_
  refine AO.nil ?_
  refine AW.seq ?_
  refine AW.seq ?_
  refine AW.region ?_
  refine AO.xs rfl rfl rfl (XS.move rfl) ?_
  refine AO.xs rfl rfl rfl (XS.lenStr rfl (st rfl)) ?_
  refine AO.xs rfl rfl rfl (XS.int rfl rfl rfl) ?_
  refine AO.nil ?_
  refine AW.cond rfl (fun hb1 => ?_) (fun hb1 => ?_)
  · skip
    replace hb1 := of_decide_eq_true hb1
    refine AW.seq ?_
    refine AW.region ?_
    refine AO.xs rfl rfl rfl (XS.assign rfl) ?_
    refine AO.nil ?_
    refine AW.ret ?_
    exact ⟨_, rfl, rfl⟩
  · skip
    replace hb1 := of_decide_eq_false hb1
    refine AW.skip ?_
    refine AW.seq ?_
    refine AW.region ?_
    refine AO.xs rfl rfl rfl (XS.assign rfl) ?_
    refine AO.nil ?_
    refine AW.seq ?_
    refine AW.region ?_
    refine AO.xs rfl rfl rfl (XS.loadA rfl (ro rfl) (sz rfl) rfl (Nat.le_of_ble_eq_true rfl)) ?_
    refine AO.xs rfl rfl rfl (XS.move rfl) ?_
    refine AO.xs rfl rfl rfl (XS.call rfl (by kernel_rfl) rfl (szPair_c (by omega) hx)) ?_
    refine AO.xs rfl rfl rfl (XS.assign rfl) ?_
    refine AO.nil ?_
    refine AW.seq ?_
    refine AW.seq ?_
    refine AW.region ?_
    refine AO.xs rfl rfl rfl (XS.move rfl) ?_
    refine AO.xs rfl rfl rfl (XS.int rfl rfl rfl) ?_
    refine AO.nil ?_
    refine AW.cond rfl (fun hb2 => ?_) (fun hb2 => ?_)
    · skip
      replace hb2 := of_decide_eq_true hb2
      refine AW.seq ?_
      refine AW.region ?_
      refine AO.xs rfl rfl rfl (XS.assign rfl) ?_
      refine AO.nil ?_
      refine AW.ret ?_
      exact ⟨_, rfl, rfl⟩
    · skip
      replace hb2 := of_decide_eq_false hb2
      have k1 := left_ge hb2
      refine AW.skip ?_
      refine AW.seq ?_
      refine AW.region ?_
      refine AO.xs rfl rfl rfl (XS.loadA rfl (ro rfl) (sz rfl) rfl (Nat.le_of_ble_eq_true rfl)) ?_
      refine AO.xs rfl rfl rfl (XS.move rfl) ?_
      refine AO.xs rfl rfl rfl (XS.call rfl (by kernel_rfl) rfl (szPair_c (by omega) hy)) ?_
      refine AO.xs rfl rfl rfl (XS.assign rfl) ?_
      refine AO.nil ?_
      refine AW.seq ?_
      refine AW.seq ?_
      refine AW.region ?_
      refine AO.xs rfl rfl rfl (XS.move rfl) ?_
      refine AO.xs rfl rfl rfl (XS.int rfl rfl rfl) ?_
      refine AO.nil ?_
      refine AW.cond rfl (fun hb3 => ?_) (fun hb3 => ?_)
      · skip
        replace hb3 := of_decide_eq_true hb3
        refine AW.seq ?_
        refine AW.region ?_
        refine AO.xs rfl rfl rfl (XS.assign rfl) ?_
        refine AO.nil ?_
        refine AW.ret ?_
        exact ⟨_, rfl, rfl⟩
      · skip
        replace hb3 := of_decide_eq_false hb3
        refine AW.skip ?_
        refine AW.seq ?_
        refine AW.drawn2 [[.im (.string ⟨#[]⟩), .im (.string ⟨#[]⟩)]] mix (Nat.zero_le _) rfl (by kernel_rfl) ?_
        refine DC2.cons rfl rfl rfl (XS.loadA rfl (ro rfl) (sz rfl) rfl (Nat.le_of_ble_eq_true rfl)) ?_
        refine DC2.cons rfl rfl rfl (XS.call rfl (by kernel_rfl) rfl toPair_c) ?_
        refine DC2.cons rfl rfl rfl (XS.loadA rfl (ro rfl) (sz rfl) rfl (Nat.le_of_ble_eq_true rfl)) ?_
        refine DC2.cons rfl rfl rfl (XS.call rfl (by kernel_rfl) rfl toPair_c) ?_
        refine DC2.cons rfl rfl rfl (XS.move rfl) ?_
        refine DC2.cons rfl rfl rfl (XS.call rfl (by kernel_rfl) rfl subPairS_c) ?_
        refine DC2.al 2 rfl rfl (ze rfl) rfl rfl ?_
        refine DC2.done rfl (by kernel_rfl) ?_
        refine AO.store rfl rfl rfl rfl (sz rfl) rfl rfl rfl rfl ?_
        refine AO.nil ?_
        refine AW.seq ?_
        refine AW.drawn2 [[.im (.string ⟨#[]⟩), .im (.string ⟨#[]⟩)]] mix (Nat.zero_le _) rfl (by kernel_rfl) ?_
        refine DC2.cons rfl rfl rfl (XS.loadA rfl (ro rfl) (sz rfl) rfl (Nat.le_of_ble_eq_true rfl)) ?_
        refine DC2.cons rfl rfl rfl (XS.call rfl (by kernel_rfl) rfl toPair_c) ?_
        refine DC2.cons rfl rfl rfl (XS.loadA rfl (ro rfl) (sz rfl) rfl (Nat.le_of_ble_eq_true rfl)) ?_
        refine DC2.cons rfl rfl rfl (XS.call rfl (by kernel_rfl) rfl toPair_c) ?_
        refine DC2.cons rfl rfl rfl (XS.move rfl) ?_
        refine DC2.cons rfl rfl rfl (XS.call rfl (by kernel_rfl) rfl (subPairI_c (by omega))) ?_
        refine DC2.al 3 rfl rfl (ze rfl) rfl rfl ?_
        refine DC2.done rfl (by kernel_rfl) ?_
        refine AO.store rfl rfl rfl rfl (sz rfl) rfl rfl rfl rfl ?_
        refine AO.nil ?_
        refine AW.seq ?_
        refine AW.seq ?_
        refine AW.region ?_
        refine AO.xs rfl rfl rfl (XS.loadA rfl (ro rfl) (sz rfl) rfl (Nat.le_of_ble_eq_true rfl)) ?_
        refine AO.xs rfl rfl rfl (XS.loadA rfl (ro rfl) (sz rfl) rfl (Nat.le_of_ble_eq_true rfl)) ?_
        refine AO.xs rfl rfl rfl (XS.call rfl (by kernel_rfl) rfl eqPair_c) ?_
        refine AO.xs rfl rfl rfl (XS.not rfl) ?_
        refine AO.nil ?_
        refine AW.cond rfl (fun hb4 => ?_) (fun hb4 => ?_)
        · skip
          replace hb4 := eqP_false.1 (notT hb4)
          exact absurd rfl hb4
        · skip
          replace hb4 := eqP_iff.1 (notF hb4)
          refine AW.skip ?_
          refine AW.seq ?_
          refine AW.region ?_
          refine AO.xs rfl rfl rfl (XS.assign rfl) ?_
          refine AO.nil ?_
          refine AW.ret ?_
          exact ⟨_, rfl, rfl⟩

end Go.Proofs.Ytnepbbhcbehilaa.C
