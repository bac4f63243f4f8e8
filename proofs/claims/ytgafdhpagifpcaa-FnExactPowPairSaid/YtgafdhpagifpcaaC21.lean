/-
  OWN WORK, printed by wip/tools/gen.py out of the translation and of the contracts in wip/specs.
-/
import Derived.Test.YtgafdhpagifpcaaC20
import Derived.Test.YtgafdhpagifpcaaN11
namespace Go.Proofs.Ytgafdhpagifpcaa.C
open Go Go.RowKit Go.Proofs.Ytgafdhpagifpcaa.Av Go.Proofs.Ytgafdhpagifpcaa.Ty Go.Proofs.Ytgafdhpagifpcaa.Num
set_option linter.unusedVariables false

set_option maxRecDepth 100000 in
theorem l02Left_c {a s : Nat} (ha : nl 16777216 a ≤ 1048576) (hs : s ≤ 23) : AR Try.prog 141 [limD a, .im (.int .u64 (s : Int))] (nl 16777216 a + 1) 1 (nkD .i64 (fx 16777216 (nl 16777216 a + 1) (a * 2 ^ s))) := by
  refine AR.intro Try.func141 Try.ntmps141 Try.results141 rfl (by simp) (Nat.succ_pos _) (fun w0 T => ?_)
  refine AW.seq ?_
  refine AW.region ?_
  refine AO.xs rfl rfl rfl (XS.assign rfl) ?_
  refine AO.nil ?_
  refine AW.seq ?_
  refine AW.region ?_
  refine AO.xs rfl rfl rfl (XS.move rfl) ?_
  refine AO.xs rfl rfl rfl (XS.lenL rfl (el rfl)) ?_
  refine AO.xs rfl rfl rfl (XS.addN (n := 1) rfl rfl (by omega)) ?_
  refine AO.makeC (16777216) (l' := 0) rfl rfl rfl rfl (ap rfl) (by omega) (by omega) ?_
  refine AO.xs rfl rfl rfl (XS.assign rfl) ?_
  refine AO.nil ?_
  refine AW.seq ?_
  refine AW.region ?_
  refine AO.xs rfl rfl rfl (XS.assign rfl) ?_
  refine AO.nil ?_
  refine AW.seq ?_
  refine AW.seq ?_
  refine AW.region ?_
  refine AO.xs rfl rfl rfl (XS.assign rfl) ?_
  refine AO.nil ?_
  refine AW.block ?_
  refine AW.loop [0, 1, 4] (fun i => [(5, .r 0 i 1), (6, .d (intD ((a % 16777216 ^ i * 2 ^ s / 16777216 ^ i : Nat) : Int))), (7, .d (intD ((i : Nat) : Int)))]) (fun i => [nkD .i64 (fx 16777216 i (a * 2 ^ s))]) (fun i => i ≤ nl 16777216 a) (fun i => nl 16777216 a - i) (0) (Nat.zero_le _) ⟨rfl, lk_D rfl (intEq (congrArg Nat.cast (show 0 = a % 16777216 ^ 0 * 2 ^ s / 16777216 ^ 0 by rw [Nat.pow_zero, Nat.mod_one, Nat.zero_mul]))), rfl, trivial⟩ ⟨⟨_, rfl, rfl⟩, ⟨_, rfl, rfl⟩, ⟨_, rfl, rfl⟩, trivial⟩ rfl ?_
  intro i hi
  have hp := le24 hs
  have hm : a / 16777216 ^ i % 16777216 * 2 ^ s ≤ 16777215 * 8388608 := Nat.mul_le_mul (by omega) hp
  have hc := left_part (a := a) (i := i) hs
  refine AW.seq ?_
  refine AW.seq ?_
  refine AW.region ?_
  refine AO.xs rfl rfl rfl (XS.move rfl) ?_
  refine AO.xs rfl rfl rfl (XS.move rfl) ?_
  refine AO.xs rfl rfl rfl (XS.lenL rfl (el rfl)) ?_
  refine AO.xs rfl rfl rfl (XS.int rfl rfl rfl) ?_
  refine AO.nil ?_
  refine AW.cond rfl (fun hb1 => ?_) (fun hb1 => ?_)
  · skip
    replace hb1 := of_decide_eq_true hb1
    refine AW.skip ?_
    refine AW.seq ?_
    refine AW.block ?_
    refine AW.seq ?_
    refine AW.region ?_
    refine AO.xs rfl rfl rfl (XS.move rfl) ?_
    refine AO.xs rfl rfl rfl (XS.move rfl) ?_
    refine AO.xs rfl rfl rfl (XS.indexL rfl rfl (el rfl) (by omega)) ?_
    refine AO.xs rfl rfl rfl (XS.loadE rfl (on rfl) rfl) ?_
    refine AO.xs rfl rfl rfl (XS.move rfl) ?_
    refine AO.xs rfl rfl rfl (XS.shlI rfl rfl (by omega) (Nat.lt_of_le_of_lt hm (by decide))) ?_
    refine AO.xs rfl rfl rfl (XS.move rfl) ?_
    refine AO.xs rfl rfl rfl (XS.orI rfl rfl (Nat.lt_of_le_of_lt hm (by decide)) (Nat.lt_of_lt_of_le hc (Nat.le_trans hp (by decide)))) ?_
    refine AO.tell 26 rfl (intEq (congrArg Nat.cast (left_t hs))) ?_
    refine AO.xs rfl rfl rfl (XS.assign rfl) ?_
    refine AO.nil ?_
    refine AW.seq ?_
    refine AW.region ?_
    refine AO.xs rfl rfl rfl (XS.move rfl) ?_
    refine AO.xs rfl rfl rfl (XS.move rfl) ?_
    refine AO.xs rfl rfl rfl (XS.maskN rfl rfl) ?_
    refine AO.tell 29 rfl (intEq (congrArg Nat.cast left_digit)) ?_
    refine AO.xs rfl rfl rfl (XS.buildSlice (ap rfl) rfl rfl rfl (by decide)) ?_
    refine AO.appendL rfl rfl rfl rfl (ap rfl) (el rfl) (Nat.zero_le _) rfl (fx_len _ _ _) (by omega) (by simp only [maxLen]; omega) rfl ?_
    refine AO.xs rfl rfl rfl (XS.assign rfl) ?_
    refine AO.nil ?_
    refine AW.region ?_
    refine AO.xs rfl rfl rfl (XS.move rfl) ?_
    refine AO.xs rfl rfl rfl (XS.shrI (n := 24) rfl rfl (by omega)) ?_
    refine AO.tell 33 rfl (intEq (congrArg Nat.cast left_carry)) ?_
    refine AO.xs rfl rfl rfl (XS.assign rfl) ?_
    refine AO.nil ?_
    refine AW.region ?_
    refine AO.xs rfl rfl rfl (XS.move rfl) ?_
    refine AO.xs rfl rfl rfl (XS.addN (n := 1) rfl rfl (by omega)) ?_
    refine AO.xs rfl rfl rfl (XS.assign rfl) ?_
    refine AO.nil ?_
    exact ⟨i + 1, (by omega), (by dsimp only; omega), ⟨rfl, rfl, rfl, trivial⟩, ⟨⟨_, rfl, rfl⟩, ⟨_, rfl, rfl⟩, ⟨_, rfl, rfl⟩, trivial⟩, (congrArg (fun z => [nkD .i64 z]) fx_snoc.symm)⟩
  · skip
    replace hb1 := of_decide_eq_false hb1
    obtain rfl : i = nl 16777216 a := by omega
    refine AW.tell 6 rfl (intEq (congrArg Nat.cast (left_top hs))) ?_
    refine AW.exit ?_
    refine AW.seq ?_
    refine AW.region ?_
    refine AO.xs rfl rfl rfl (XS.move rfl) ?_
    refine AO.xs rfl rfl rfl (XS.move rfl) ?_
    refine AO.xs rfl rfl rfl (XS.buildSlice (ap rfl) rfl rfl rfl (by decide)) ?_
    refine AO.appendL rfl rfl rfl rfl (ap rfl) (el rfl) (Nat.zero_le _) rfl (fx_len _ _ _) (by omega) (by simp only [maxLen]; omega) rfl ?_
    refine AO.xs rfl rfl rfl (XS.assign rfl) ?_
    refine AO.nil ?_
    refine AW.setH (congrArg (fun z => [nkD .i64 z]) fx_snoc.symm) ?_
    refine AW.ret ?_
    exact ⟨_, _, rfl, rfl, rfl⟩

end Go.Proofs.Ytgafdhpagifpcaa.C
