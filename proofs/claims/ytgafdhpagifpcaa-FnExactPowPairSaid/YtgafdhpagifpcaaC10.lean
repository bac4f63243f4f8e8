/-
  OWN WORK, printed by wip/tools/gen.py out of the translation and of the contracts in wip/specs.
-/
import Derived.Test.YtgafdhpagifpcaaC3
import Derived.Test.YtgafdhpagifpcaaN4
import Derived.Test.YtgafdhpagifpcaaAvL
namespace Go.Proofs.Ytgafdhpagifpcaa.C
open Go Go.RowKit Go.Proofs.Ytgafdhpagifpcaa.Av Go.Proofs.Ytgafdhpagifpcaa.Ty Go.Proofs.Ytgafdhpagifpcaa.Num
set_option linter.unusedVariables false


open Go.Proofs.Ytgafdhpagifpcaa.Num
theorem ext_add : ExtB Try.prog 164 add64Entry := ⟨fun args w => run_callFunc_extern Try.func164 (by kernel_rfl) (by kernel_rfl) (by kernel_rfl) (by kernel_rfl) args w⟩
theorem ext_sub : ExtB Try.prog 167 sub64E := ⟨fun args w => run_callFunc_extern Try.func167 (by kernel_rfl) (by kernel_rfl) (by kernel_rfl) (by kernel_rfl) args w⟩
def lenTab : ByteArray := ⟨#[0, 1, 2, 2, 3, 3, 3, 3, 4, 4, 4, 4, 4, 4, 4, 4, 5, 5, 5, 5, 5, 5, 5, 5, 5, 5, 5, 5, 5, 5, 5, 5, 6, 6, 6, 6, 6, 6, 6, 6, 6, 6, 6, 6, 6, 6, 6, 6, 6, 6, 6, 6, 6, 6, 6, 6, 6, 6, 6, 6, 6, 6, 6, 6, 7, 7, 7, 7, 7, 7, 7, 7, 7, 7, 7, 7, 7, 7, 7, 7, 7, 7, 7, 7, 7, 7, 7, 7, 7, 7, 7, 7, 7, 7, 7, 7, 7, 7, 7, 7, 7, 7, 7, 7, 7, 7, 7, 7, 7, 7, 7, 7, 7, 7, 7, 7, 7, 7, 7, 7, 7, 7, 7, 7, 7, 7, 7, 7, 8, 8, 8, 8, 8, 8, 8, 8, 8, 8, 8, 8, 8, 8, 8, 8, 8, 8, 8, 8, 8, 8, 8, 8, 8, 8, 8, 8, 8, 8, 8, 8, 8, 8, 8, 8, 8, 8, 8, 8, 8, 8, 8, 8, 8, 8, 8, 8, 8, 8, 8, 8, 8, 8, 8, 8, 8, 8, 8, 8, 8, 8, 8, 8, 8, 8, 8, 8, 8, 8, 8, 8, 8, 8, 8, 8, 8, 8, 8, 8, 8, 8, 8, 8, 8, 8, 8, 8, 8, 8, 8, 8, 8, 8, 8, 8, 8, 8, 8, 8, 8, 8, 8, 8, 8, 8, 8, 8, 8, 8, 8, 8, 8, 8, 8, 8, 8, 8, 8, 8, 8, 8, 8, 8, 8, 8, 8, 8]⟩
theorem lenTab_ok : ∀ x, x < 256 → (lenTab.data.getD x 0).toNat = nlF 2 8 x := by decide +kernel
theorem lenTab_at {x : Nat} (h : x < 256) : (((lenTab.data.getD x 0).toNat : Nat) : Int) = ((nl 2 x : Nat) : Int) := by rw [lenTab_ok x h, nl_F (by decide) (f := 8) h]

set_option maxRecDepth 100000 in
theorem trim_c {k V : Nat} (hk : k ≤ 2097152) (hV : V < 18446744073709551616 ^ k) : AC Try.prog 131 [limbsD .u64 (fx 18446744073709551616 k V)] (fun d => d = natD V) := by
  refine AC.intro Try.func131 Try.ntmps131 Try.results131 rfl (by simp) (fun w0 T => ?_)
  refine AW.seq ?_
  refine AW.region ?_
  refine AO.xs rfl rfl rfl (XS.assign rfl) ?_
  refine AO.nil ?_
  refine AW.seq ?_
  refine AW.block ?_
  refine AW.loop [2] (fun j => [(0, .d (limbsD .u64 (fx 18446744073709551616 j V)))]) (fun _ => _) (fun j => j ≤ k ∧ V < 18446744073709551616 ^ j) (fun j => j) (k) ⟨Nat.le_refl _, hV⟩ ⟨rfl, trivial⟩ ⟨⟨_, rfl, rfl⟩, trivial⟩ rfl ?_
  intro j ⟨hj, hV⟩
  refine AW.seq ?_
  refine AW.seq ?_
  refine AW.region ?_
  refine AO.xs rfl rfl rfl (XS.move rfl) ?_
  refine AO.xs rfl rfl rfl (XS.lenL rfl (el rfl)) ?_
  refine AO.xs rfl rfl rfl (XS.int rfl rfl rfl) ?_
  refine AO.xs rfl rfl rfl (XS.move rfl) ?_
  refine AO.split 6 rfl (fun hg1 => ?_) (fun hg1 => ?_)
  · skip
    have hg1n := of_decide_eq_true hg1
    refine AO.gyes rfl rfl rfl rfl rfl rfl hg1 rfl (XS.move rfl) ?_
    refine AO.gyes rfl rfl rfl rfl rfl rfl hg1 rfl (XS.move rfl) ?_
    refine AO.gyes rfl rfl rfl rfl rfl rfl hg1 rfl (XS.lenL rfl (el rfl)) ?_
    refine AO.gyes rfl rfl rfl rfl rfl rfl hg1 rfl (XS.subN (n := 1) rfl rfl (by omega)) ?_
    refine AO.gyes rfl rfl rfl rfl rfl rfl hg1 rfl (XS.indexL rfl rfl (el rfl) (by omega)) ?_
    refine AO.gyes rfl rfl rfl rfl rfl rfl hg1 rfl (XS.loadE rfl (on rfl) rfl) ?_
    refine AO.gyes rfl rfl rfl rfl rfl rfl hg1 rfl (XS.int rfl rfl rfl) ?_
    refine AO.xs rfl rfl rfl (XS.pickT rfl rfl hg1) ?_
    refine AO.nil ?_
    refine AW.cond rfl (fun hb2 => ?_) (fun hb2 => ?_)
    · skip
      replace hb2 := eq_of_beq hb2
      refine AW.skip ?_
      refine AW.block ?_
      refine AW.region ?_
      refine AO.xs rfl rfl rfl (XS.move rfl) ?_
      refine AO.xs rfl rfl rfl (XS.move rfl) ?_
      refine AO.xs rfl rfl rfl (XS.lenL rfl (el rfl)) ?_
      refine AO.xs rfl rfl rfl (XS.subN (n := 1) rfl rfl (by omega)) ?_
      refine AO.xs rfl rfl rfl (XS.headL rfl rfl (el rfl) (by omega)) ?_
      refine AO.xs rfl rfl rfl (XS.assign rfl) ?_
      refine AO.nil ?_
      exact ⟨j - 1, ⟨by omega, trim_next (by decide) (by omega) hV (by omega)⟩, (by dsimp only; omega), ⟨rfl, trivial⟩, ⟨⟨_, rfl, rfl⟩, trivial⟩, rfl⟩
    · skip
      replace hb2 := ne_of_beq_false hb2
      refine AW.exit ?_
      refine AW.seq ?_
      refine AW.region ?_
      refine AO.xs rfl rfl rfl (XS.move rfl) ?_
      refine AO.xs rfl rfl rfl (XS.assign rfl) ?_
      refine AO.nil ?_
      refine AW.ret ?_
      exact ⟨_, rfl, congrArg (limbsD .u64) (trim_end (by decide) (by omega) hV (by omega))⟩
  · skip
    have hg1n := of_decide_eq_false hg1
    refine AO.gno rfl rfl rfl rfl rfl rfl hg1 (by decide) rfl ?_
    refine AO.gno rfl rfl rfl rfl rfl rfl hg1 (by decide) rfl ?_
    refine AO.gno rfl rfl rfl rfl rfl rfl hg1 (by decide) rfl ?_
    refine AO.gno rfl rfl rfl rfl rfl rfl hg1 (by decide) rfl ?_
    refine AO.gno rfl rfl rfl rfl rfl rfl hg1 (by decide) rfl ?_
    refine AO.gno rfl rfl rfl rfl rfl rfl hg1 (by decide) rfl ?_
    refine AO.gno rfl rfl rfl rfl rfl rfl hg1 (by decide) rfl ?_
    refine AO.xs rfl rfl rfl (XS.pickF rfl rfl hg1) ?_
    refine AO.nil ?_
    refine AW.condF rfl rfl ?_
    refine AW.exit ?_
    refine AW.seq ?_
    refine AW.region ?_
    refine AO.xs rfl rfl rfl (XS.move rfl) ?_
    refine AO.xs rfl rfl rfl (XS.assign rfl) ?_
    refine AO.nil ?_
    refine AW.ret ?_
    exact ⟨_, rfl, congrArg (limbsD .u64) (trim_nil (by omega) hV)⟩

set_option maxRecDepth 100000 in
theorem l02Trim_c {k V : Nat} (hk : k ≤ 2097152) (hV : V < 16777216 ^ k) : AC Try.prog 123 [limbsD .i64 (fx 16777216 k V)] (fun d => d = limD V) := by
  refine AC.intro Try.func123 Try.ntmps123 Try.results123 rfl (by simp) (fun w0 T => ?_)
  refine AW.seq ?_
  refine AW.region ?_
  refine AO.xs rfl rfl rfl (XS.assign rfl) ?_
  refine AO.nil ?_
  refine AW.seq ?_
  refine AW.region ?_
  refine AO.xs rfl rfl rfl (XS.move rfl) ?_
  refine AO.xs rfl rfl rfl (XS.lenL rfl (el rfl)) ?_
  refine AO.xs rfl rfl rfl (XS.assign rfl) ?_
  refine AO.nil ?_
  refine AW.seq ?_
  refine AW.block ?_
  refine AW.loop [0, 2] (fun j => [(3, .d (intD ((j : Nat) : Int)))]) (fun _ => _) (fun j => j ≤ k ∧ V < 16777216 ^ j) (fun j => j) (k) ⟨Nat.le_refl _, hV⟩ ⟨rfl, trivial⟩ ⟨⟨_, rfl, rfl⟩, ⟨_, rfl, rfl⟩, trivial⟩ rfl ?_
  intro j ⟨hj, hV⟩
  refine AW.seq ?_
  refine AW.seq ?_
  refine AW.region ?_
  refine AO.xs rfl rfl rfl (XS.move rfl) ?_
  refine AO.xs rfl rfl rfl (XS.int rfl rfl rfl) ?_
  refine AO.xs rfl rfl rfl (XS.move rfl) ?_
  refine AO.split 8 rfl (fun hg1 => ?_) (fun hg1 => ?_)
  · skip
    have hg1n := of_decide_eq_true hg1
    refine AO.gyes rfl rfl rfl rfl rfl rfl hg1 rfl (XS.move rfl) ?_
    refine AO.gyes rfl rfl rfl rfl rfl rfl hg1 rfl (XS.move rfl) ?_
    refine AO.gyes rfl rfl rfl rfl rfl rfl hg1 rfl (XS.subN (n := 1) rfl rfl (by omega)) ?_
    refine AO.gyes rfl rfl rfl rfl rfl rfl hg1 rfl (XS.indexL rfl rfl (el rfl) (by omega)) ?_
    refine AO.gyes rfl rfl rfl rfl rfl rfl hg1 rfl (XS.loadE rfl (on rfl) rfl) ?_
    refine AO.gyes rfl rfl rfl rfl rfl rfl hg1 rfl (XS.int rfl rfl rfl) ?_
    refine AO.xs rfl rfl rfl (XS.pickT rfl rfl hg1) ?_
    refine AO.nil ?_
    refine AW.cond rfl (fun hb2 => ?_) (fun hb2 => ?_)
    · skip
      replace hb2 := eq_of_beq hb2
      refine AW.skip ?_
      refine AW.block ?_
      refine AW.region ?_
      refine AO.xs rfl rfl rfl (XS.move rfl) ?_
      refine AO.xs rfl rfl rfl (XS.subN (n := 1) rfl rfl (by omega)) ?_
      refine AO.xs rfl rfl rfl (XS.assign rfl) ?_
      refine AO.nil ?_
      exact ⟨j - 1, ⟨by omega, trim_next (by decide) (by omega) hV (by omega)⟩, (by dsimp only; omega), ⟨rfl, trivial⟩, ⟨⟨_, rfl, rfl⟩, ⟨_, rfl, rfl⟩, trivial⟩, rfl⟩
    · skip
      replace hb2 := ne_of_beq_false hb2
      refine AW.exit ?_
      refine AW.seq ?_
      refine AW.region ?_
      refine AO.xs rfl rfl rfl (XS.move rfl) ?_
      refine AO.xs rfl rfl rfl (XS.move rfl) ?_
      refine AO.xs rfl rfl rfl (XS.headL rfl rfl (el rfl) (by omega)) ?_
      refine AO.xs rfl rfl rfl (XS.assign rfl) ?_
      refine AO.nil ?_
      refine AW.ret ?_
      exact ⟨_, rfl, congrArg (limbsD .i64) (trim_end (by decide) (by omega) hV (by omega))⟩
  · skip
    have hg1n := of_decide_eq_false hg1
    refine AO.gno rfl rfl rfl rfl rfl rfl hg1 (by decide) rfl ?_
    refine AO.gno rfl rfl rfl rfl rfl rfl hg1 (by decide) rfl ?_
    refine AO.gno rfl rfl rfl rfl rfl rfl hg1 (by decide) rfl ?_
    refine AO.gno rfl rfl rfl rfl rfl rfl hg1 (by decide) rfl ?_
    refine AO.gno rfl rfl rfl rfl rfl rfl hg1 (by decide) rfl ?_
    refine AO.gno rfl rfl rfl rfl rfl rfl hg1 (by decide) rfl ?_
    refine AO.xs rfl rfl rfl (XS.pickF rfl rfl hg1) ?_
    refine AO.nil ?_
    refine AW.condF rfl rfl ?_
    refine AW.exit ?_
    refine AW.seq ?_
    refine AW.region ?_
    refine AO.xs rfl rfl rfl (XS.move rfl) ?_
    refine AO.xs rfl rfl rfl (XS.move rfl) ?_
    refine AO.xs rfl rfl rfl (XS.headL rfl rfl (el rfl) (by omega)) ?_
    refine AO.xs rfl rfl rfl (XS.assign rfl) ?_
    refine AO.nil ?_
    refine AW.ret ?_
    exact ⟨_, rfl, congrArg (limbsD .i64) (trim_nil (by omega) hV)⟩

set_option maxRecDepth 100000 in
theorem natOf_c {s : ByteArray} (hs : s.size ≤ 1048576) : AC Try.prog 75 [strD s] (fun d => d = natD (beN s)) := by
  refine AC.intro Try.func75 Try.ntmps75 Try.results75 rfl (by simp) (fun w0 T => ?_)
  refine AW.seq ?_
  refine AW.region ?_
  refine AO.xs rfl rfl rfl (XS.assign rfl) ?_
  refine AO.nil ?_
  refine AW.seq ?_
  refine AW.region ?_
  refine AO.xs rfl rfl rfl (XS.move rfl) ?_
  refine AO.xs rfl rfl rfl (XS.lenStr rfl (st rfl)) ?_
  refine AO.xs rfl rfl rfl (XS.addN (n := 7) rfl rfl (by omega)) ?_
  refine AO.xs rfl rfl rfl (XS.quoI (n := 8) rfl rfl (by omega) (by omega)) ?_
  refine AO.makeC (18446744073709551616) rfl rfl rfl rfl (ap rfl) (Nat.le_refl _) (by omega) ?_
  refine AO.xs rfl rfl rfl (XS.assign rfl) ?_
  refine AO.nil ?_
  refine AW.seq ?_
  refine AW.seq ?_
  refine AW.region ?_
  refine AO.xs rfl rfl rfl (XS.move rfl) ?_
  refine AO.xs rfl rfl rfl (XS.lenStr rfl (st rfl)) ?_
  refine AO.xs rfl rfl rfl (XS.move rfl) ?_
  refine AO.nil ?_
  refine AW.block ?_
  refine AW.loop [0, 2, 3, 12] (fun i => [(13, .d (intD ((i : Nat) : Int)))]) (fun i => [nkD .u64 (fx 18446744073709551616 ((s.size + 7) / 8) (hi s i))]) (fun i => i ≤ s.size) (fun i => s.size - i) (0) (Nat.zero_le _) ⟨rfl, trivial⟩ ⟨⟨_, rfl, rfl⟩, ⟨_, rfl, rfl⟩, ⟨_, rfl, rfl⟩, ⟨_, rfl, rfl⟩, trivial⟩ (congrArg (fun z => [nkD .u64 (fx _ _ z)]) (hi_zero s).symm) ?_
  intro i hi
  refine AW.seq ?_
  refine AW.region ?_
  refine AO.xs rfl rfl rfl (XS.int rfl rfl rfl) ?_
  refine AO.nil ?_
  refine AW.seq ?_
  refine AW.cond rfl (fun hb1 => ?_) (fun hb1 => ?_)
  · skip
    replace hb1 := of_decide_eq_true hb1
    refine AW.skip ?_
    refine AW.seq ?_
    refine AW.block ?_
    refine AW.seq ?_
    refine AW.region ?_
    refine AO.xs rfl rfl rfl (XS.move rfl) ?_
    refine AO.xs rfl rfl rfl (XS.assign rfl) ?_
    refine AO.nil ?_
    refine AW.seq ?_
    refine AW.region ?_
    refine AO.xs rfl rfl rfl (XS.move rfl) ?_
    refine AO.xs rfl rfl rfl (XS.lenStr rfl (st rfl)) ?_
    refine AO.xs rfl rfl rfl (XS.subN (n := 1) rfl rfl (by omega)) ?_
    refine AO.xs rfl rfl rfl (XS.move rfl) ?_
    refine AO.xs rfl rfl rfl (XS.subN rfl rfl (by omega)) ?_
    refine AO.xs rfl rfl rfl (XS.assign rfl) ?_
    refine AO.nil ?_
    refine AW.drawn mix ?_
    refine DC.cons rfl rfl rfl (XS.move rfl) ?_
    refine DC.cons rfl rfl rfl (XS.move rfl) ?_
    refine DC.cons rfl rfl rfl (XS.quoI (n := 8) rfl rfl (by omega) (by omega)) ?_
    refine DC.cons rfl rfl rfl (XS.indexR1 rfl rfl (el rfl) (by omega)) ?_
    refine DC.cons rfl rfl rfl (XS.loadL rfl (on rfl) rfl (by omega)) ?_
    refine DC.cons rfl rfl rfl (XS.move rfl) ?_
    refine DC.cons rfl rfl rfl (XS.move rfl) ?_
    refine DC.cons rfl rfl rfl (XS.indexN rfl rfl (st rfl) (by omega)) ?_
    refine DC.cons rfl rfl rfl (XS.convU64 rfl (us rfl) (ik rfl)) ?_
    refine DC.cons rfl rfl rfl (XS.move rfl) ?_
    refine DC.cons rfl rfl rfl (XS.remI (n := 8) rfl rfl (by omega)) ?_
    refine DC.cons rfl rfl rfl (XS.mulN (m := 8) rfl rfl (by omega)) ?_
    refine DC.cons rfl rfl rfl (XS.shlU rfl rfl) ?_
    refine DC.cons rfl rfl rfl (XS.orU rfl rfl (by omega) (by omega)) ?_
    refine DC.cons rfl rfl rfl (XS.indexR1 rfl rfl (el rfl) (by omega)) ?_
    refine DC.done (by kernel_rfl) ?_
    refine AO.storeL rfl rfl rfl (sz rfl) rfl (by omega) (natOf_put (by omega)) rfl ?_
    refine AO.nil ?_
    refine AW.region ?_
    refine AO.xs rfl rfl rfl (XS.addN (n := 1) rfl rfl (by omega)) ?_
    refine AO.xs rfl rfl rfl (XS.move rfl) ?_
    refine AO.nil ?_
    exact ⟨i + 1, (by omega), (by dsimp only; omega), ⟨rfl, trivial⟩, ⟨⟨_, rfl, rfl⟩, ⟨_, rfl, rfl⟩, ⟨_, rfl, rfl⟩, ⟨_, rfl, rfl⟩, trivial⟩, rfl⟩
  · skip
    replace hb1 := of_decide_eq_false hb1
    refine AW.exit ?_
    refine AW.seq ?_
    refine AW.region ?_
    refine AO.xs rfl rfl rfl (XS.move rfl) ?_
    refine AO.freezeL 37 rfl (Nat.zero_le _) rfl (fx_len _ _ _).symm ?_
    refine AO.xs rfl rfl rfl (XS.call rfl (by kernel_rfl) rfl (trim_c (by omega) (natOf_lt s i))) ?_
    refine AO.xs rfl rfl rfl (XS.assign rfl) ?_
    refine AO.nil ?_
    refine AW.ret ?_
    obtain rfl : i = s.size := by omega
    exact ⟨_, rfl, congrArg natD (hi_all s)⟩

set_option maxRecDepth 100000 in
theorem len64_c {x : Nat} (hx : x < 18446744073709551616) : AC Try.prog 153 [.im (.int .u64 (x : Int))] (fun d => d = intD ((nl 2 x : Nat) : Int)) := by
  refine AC.intro Try.func153 Try.ntmps153 Try.results153 rfl (by simp) (fun w0 T => ?_)
  have h1 := (nl_le (b := 2) (k := 64) (by decide)).2 hx
  refine AW.seq ?_
  refine AW.region ?_
  refine AO.xs rfl rfl rfl (XS.assign rfl) ?_
  refine AO.nil ?_
  refine AW.seq ?_
  refine AW.seq ?_
  refine AW.region ?_
  refine AO.xs rfl rfl rfl (XS.move rfl) ?_
  refine AO.xs rfl rfl rfl (XS.int rfl rfl rfl) ?_
  refine AO.nil ?_
  refine AW.cond rfl (fun hb1 => ?_) (fun hb1 => ?_)
  · skip
    replace hb1 := of_decide_eq_true hb1
    have k1 := nl2_shift (x := x) (q := 32) (by omega)
    refine AW.seq ?_
    refine AW.region ?_
    refine AO.xs rfl rfl rfl (XS.move rfl) ?_
    refine AO.xs rfl rfl rfl (XS.shrU (n := 32) rfl rfl (by omega)) ?_
    refine AO.xs rfl rfl rfl (XS.assign rfl) ?_
    refine AO.nil ?_
    refine AW.region ?_
    refine AO.xs rfl rfl rfl (XS.assign rfl) ?_
    refine AO.nil ?_
    refine AW.seq ?_
    refine AW.seq ?_
    refine AW.region ?_
    refine AO.xs rfl rfl rfl (XS.move rfl) ?_
    refine AO.xs rfl rfl rfl (XS.int rfl rfl rfl) ?_
    refine AO.nil ?_
    refine AW.cond rfl (fun hb2 => ?_) (fun hb2 => ?_)
    · skip
      replace hb2 := of_decide_eq_true hb2
      have k2 := nl2_shift (x := x / 2 ^ 32) (q := 16) (by omega)
      refine AW.seq ?_
      refine AW.region ?_
      refine AO.xs rfl rfl rfl (XS.move rfl) ?_
      refine AO.xs rfl rfl rfl (XS.shrU (n := 16) rfl rfl (by omega)) ?_
      refine AO.xs rfl rfl rfl (XS.assign rfl) ?_
      refine AO.nil ?_
      refine AW.region ?_
      refine AO.xs rfl rfl rfl (XS.move rfl) ?_
      refine AO.xs rfl rfl rfl (XS.addI rfl rfl (by omega)) ?_
      refine AO.xs rfl rfl rfl (XS.assign rfl) ?_
      refine AO.nil ?_
      refine AW.seq ?_
      refine AW.seq ?_
      refine AW.region ?_
      refine AO.xs rfl rfl rfl (XS.move rfl) ?_
      refine AO.xs rfl rfl rfl (XS.int rfl rfl rfl) ?_
      refine AO.nil ?_
      refine AW.cond rfl (fun hb3 => ?_) (fun hb3 => ?_)
      · skip
        replace hb3 := of_decide_eq_true hb3
        have k3 := nl2_shift (x := x / 2 ^ 32 / 2 ^ 16) (q := 8) (by omega)
        refine AW.seq ?_
        refine AW.region ?_
        refine AO.xs rfl rfl rfl (XS.move rfl) ?_
        refine AO.xs rfl rfl rfl (XS.shrU (n := 8) rfl rfl (by omega)) ?_
        refine AO.xs rfl rfl rfl (XS.assign rfl) ?_
        refine AO.nil ?_
        refine AW.region ?_
        refine AO.xs rfl rfl rfl (XS.move rfl) ?_
        refine AO.xs rfl rfl rfl (XS.addI rfl rfl (by omega)) ?_
        refine AO.xs rfl rfl rfl (XS.assign rfl) ?_
        refine AO.nil ?_
        refine AW.seq ?_
        refine AW.region ?_
        refine AO.xs rfl rfl rfl (XS.move rfl) ?_
        refine AO.xs rfl rfl rfl (XS.move rfl) ?_
        refine AO.xs rfl rfl rfl ((XS.convSm rfl (us rfl) (ik rfl) (by rw [IntKind.wrap_u8]; omega))) ?_
        refine AO.xs rfl rfl rfl ((XS.toI (XS.indexN rfl rfl (st rfl) (show _ < 256 by omega)) (lenTab_at (by omega)))) ?_
        refine AO.xs rfl rfl rfl (XS.convI rfl (us rfl) (ik rfl) (by omega)) ?_
        refine AO.xs rfl rfl rfl (XS.addI rfl rfl (by omega)) ?_
        refine AO.xs rfl rfl rfl (XS.assign rfl) ?_
        refine AO.nil ?_
        refine AW.ret ?_
        exact ⟨_, rfl, intEq (by omega)⟩
      · skip
        replace hb3 := of_decide_eq_false hb3
        refine AW.skip ?_
        refine AW.seq ?_
        refine AW.region ?_
        refine AO.xs rfl rfl rfl (XS.move rfl) ?_
        refine AO.xs rfl rfl rfl (XS.move rfl) ?_
        refine AO.xs rfl rfl rfl ((XS.convSm rfl (us rfl) (ik rfl) (by rw [IntKind.wrap_u8]; omega))) ?_
        refine AO.xs rfl rfl rfl ((XS.toI (XS.indexN rfl rfl (st rfl) (show _ < 256 by omega)) (lenTab_at (by omega)))) ?_
        refine AO.xs rfl rfl rfl (XS.convI rfl (us rfl) (ik rfl) (by omega)) ?_
        refine AO.xs rfl rfl rfl (XS.addI rfl rfl (by omega)) ?_
        refine AO.xs rfl rfl rfl (XS.assign rfl) ?_
        refine AO.nil ?_
        refine AW.ret ?_
        exact ⟨_, rfl, intEq (by omega)⟩
    · skip
      replace hb2 := of_decide_eq_false hb2
      refine AW.skip ?_
      refine AW.seq ?_
      refine AW.seq ?_
      refine AW.region ?_
      refine AO.xs rfl rfl rfl (XS.move rfl) ?_
      refine AO.xs rfl rfl rfl (XS.int rfl rfl rfl) ?_
      refine AO.nil ?_
      refine AW.cond rfl (fun hb4 => ?_) (fun hb4 => ?_)
      · skip
        replace hb4 := of_decide_eq_true hb4
        have k3 := nl2_shift (x := x / 2 ^ 32) (q := 8) (by omega)
        refine AW.seq ?_
        refine AW.region ?_
        refine AO.xs rfl rfl rfl (XS.move rfl) ?_
        refine AO.xs rfl rfl rfl (XS.shrU (n := 8) rfl rfl (by omega)) ?_
        refine AO.xs rfl rfl rfl (XS.assign rfl) ?_
        refine AO.nil ?_
        refine AW.region ?_
        refine AO.xs rfl rfl rfl (XS.move rfl) ?_
        refine AO.xs rfl rfl rfl (XS.addI rfl rfl (by omega)) ?_
        refine AO.xs rfl rfl rfl (XS.assign rfl) ?_
        refine AO.nil ?_
        refine AW.seq ?_
        refine AW.region ?_
        refine AO.xs rfl rfl rfl (XS.move rfl) ?_
        refine AO.xs rfl rfl rfl (XS.move rfl) ?_
        refine AO.xs rfl rfl rfl ((XS.convSm rfl (us rfl) (ik rfl) (by rw [IntKind.wrap_u8]; omega))) ?_
        refine AO.xs rfl rfl rfl ((XS.toI (XS.indexN rfl rfl (st rfl) (show _ < 256 by omega)) (lenTab_at (by omega)))) ?_
        refine AO.xs rfl rfl rfl (XS.convI rfl (us rfl) (ik rfl) (by omega)) ?_
        refine AO.xs rfl rfl rfl (XS.addI rfl rfl (by omega)) ?_
        refine AO.xs rfl rfl rfl (XS.assign rfl) ?_
        refine AO.nil ?_
        refine AW.ret ?_
        exact ⟨_, rfl, intEq (by omega)⟩
      · skip
        replace hb4 := of_decide_eq_false hb4
        refine AW.skip ?_
        refine AW.seq ?_
        refine AW.region ?_
        refine AO.xs rfl rfl rfl (XS.move rfl) ?_
        refine AO.xs rfl rfl rfl (XS.move rfl) ?_
        refine AO.xs rfl rfl rfl ((XS.convSm rfl (us rfl) (ik rfl) (by rw [IntKind.wrap_u8]; omega))) ?_
        refine AO.xs rfl rfl rfl ((XS.toI (XS.indexN rfl rfl (st rfl) (show _ < 256 by omega)) (lenTab_at (by omega)))) ?_
        refine AO.xs rfl rfl rfl (XS.convI rfl (us rfl) (ik rfl) (by omega)) ?_
        refine AO.xs rfl rfl rfl (XS.addI rfl rfl (by omega)) ?_
        refine AO.xs rfl rfl rfl (XS.assign rfl) ?_
        refine AO.nil ?_
        refine AW.ret ?_
        exact ⟨_, rfl, intEq (by omega)⟩
  · skip
    replace hb1 := of_decide_eq_false hb1
    refine AW.skip ?_
    refine AW.seq ?_
    refine AW.seq ?_
    refine AW.region ?_
    refine AO.xs rfl rfl rfl (XS.move rfl) ?_
    refine AO.xs rfl rfl rfl (XS.int rfl rfl rfl) ?_
    refine AO.nil ?_
    refine AW.cond rfl (fun hb5 => ?_) (fun hb5 => ?_)
    · skip
      replace hb5 := of_decide_eq_true hb5
      have k2 := nl2_shift (x := x) (q := 16) (by omega)
      refine AW.seq ?_
      refine AW.region ?_
      refine AO.xs rfl rfl rfl (XS.move rfl) ?_
      refine AO.xs rfl rfl rfl (XS.shrU (n := 16) rfl rfl (by omega)) ?_
      refine AO.xs rfl rfl rfl (XS.assign rfl) ?_
      refine AO.nil ?_
      refine AW.region ?_
      refine AO.xs rfl rfl rfl (XS.move rfl) ?_
      refine AO.xs rfl rfl rfl (XS.addI rfl rfl (by omega)) ?_
      refine AO.xs rfl rfl rfl (XS.assign rfl) ?_
      refine AO.nil ?_
      refine AW.seq ?_
      refine AW.seq ?_
      refine AW.region ?_
      refine AO.xs rfl rfl rfl (XS.move rfl) ?_
      refine AO.xs rfl rfl rfl (XS.int rfl rfl rfl) ?_
      refine AO.nil ?_
      refine AW.cond rfl (fun hb6 => ?_) (fun hb6 => ?_)
      · skip
        replace hb6 := of_decide_eq_true hb6
        have k3 := nl2_shift (x := x / 2 ^ 16) (q := 8) (by omega)
        refine AW.seq ?_
        refine AW.region ?_
        refine AO.xs rfl rfl rfl (XS.move rfl) ?_
        refine AO.xs rfl rfl rfl (XS.shrU (n := 8) rfl rfl (by omega)) ?_
        refine AO.xs rfl rfl rfl (XS.assign rfl) ?_
        refine AO.nil ?_
        refine AW.region ?_
        refine AO.xs rfl rfl rfl (XS.move rfl) ?_
        refine AO.xs rfl rfl rfl (XS.addI rfl rfl (by omega)) ?_
        refine AO.xs rfl rfl rfl (XS.assign rfl) ?_
        refine AO.nil ?_
        refine AW.seq ?_
        refine AW.region ?_
        refine AO.xs rfl rfl rfl (XS.move rfl) ?_
        refine AO.xs rfl rfl rfl (XS.move rfl) ?_
        refine AO.xs rfl rfl rfl ((XS.convSm rfl (us rfl) (ik rfl) (by rw [IntKind.wrap_u8]; omega))) ?_
        refine AO.xs rfl rfl rfl ((XS.toI (XS.indexN rfl rfl (st rfl) (show _ < 256 by omega)) (lenTab_at (by omega)))) ?_
        refine AO.xs rfl rfl rfl (XS.convI rfl (us rfl) (ik rfl) (by omega)) ?_
        refine AO.xs rfl rfl rfl (XS.addI rfl rfl (by omega)) ?_
        refine AO.xs rfl rfl rfl (XS.assign rfl) ?_
        refine AO.nil ?_
        refine AW.ret ?_
        exact ⟨_, rfl, intEq (by omega)⟩
      · skip
        replace hb6 := of_decide_eq_false hb6
        refine AW.skip ?_
        refine AW.seq ?_
        refine AW.region ?_
        refine AO.xs rfl rfl rfl (XS.move rfl) ?_
        refine AO.xs rfl rfl rfl (XS.move rfl) ?_
        refine AO.xs rfl rfl rfl ((XS.convSm rfl (us rfl) (ik rfl) (by rw [IntKind.wrap_u8]; omega))) ?_
        refine AO.xs rfl rfl rfl ((XS.toI (XS.indexN rfl rfl (st rfl) (show _ < 256 by omega)) (lenTab_at (by omega)))) ?_
        refine AO.xs rfl rfl rfl (XS.convI rfl (us rfl) (ik rfl) (by omega)) ?_
        refine AO.xs rfl rfl rfl (XS.addI rfl rfl (by omega)) ?_
        refine AO.xs rfl rfl rfl (XS.assign rfl) ?_
        refine AO.nil ?_
        refine AW.ret ?_
        exact ⟨_, rfl, intEq (by omega)⟩
    · skip
      replace hb5 := of_decide_eq_false hb5
      refine AW.skip ?_
      refine AW.seq ?_
      refine AW.seq ?_
      refine AW.region ?_
      refine AO.xs rfl rfl rfl (XS.move rfl) ?_
      refine AO.xs rfl rfl rfl (XS.int rfl rfl rfl) ?_
      refine AO.nil ?_
      refine AW.cond rfl (fun hb7 => ?_) (fun hb7 => ?_)
      · skip
        replace hb7 := of_decide_eq_true hb7
        have k3 := nl2_shift (x := x) (q := 8) (by omega)
        refine AW.seq ?_
        refine AW.region ?_
        refine AO.xs rfl rfl rfl (XS.move rfl) ?_
        refine AO.xs rfl rfl rfl (XS.shrU (n := 8) rfl rfl (by omega)) ?_
        refine AO.xs rfl rfl rfl (XS.assign rfl) ?_
        refine AO.nil ?_
        refine AW.region ?_
        refine AO.xs rfl rfl rfl (XS.move rfl) ?_
        refine AO.xs rfl rfl rfl (XS.addI rfl rfl (by omega)) ?_
        refine AO.xs rfl rfl rfl (XS.assign rfl) ?_
        refine AO.nil ?_
        refine AW.seq ?_
        refine AW.region ?_
        refine AO.xs rfl rfl rfl (XS.move rfl) ?_
        refine AO.xs rfl rfl rfl (XS.move rfl) ?_
        refine AO.xs rfl rfl rfl ((XS.convSm rfl (us rfl) (ik rfl) (by rw [IntKind.wrap_u8]; omega))) ?_
        refine AO.xs rfl rfl rfl ((XS.toI (XS.indexN rfl rfl (st rfl) (show _ < 256 by omega)) (lenTab_at (by omega)))) ?_
        refine AO.xs rfl rfl rfl (XS.convI rfl (us rfl) (ik rfl) (by omega)) ?_
        refine AO.xs rfl rfl rfl (XS.addI rfl rfl (by omega)) ?_
        refine AO.xs rfl rfl rfl (XS.assign rfl) ?_
        refine AO.nil ?_
        refine AW.ret ?_
        exact ⟨_, rfl, intEq (by omega)⟩
      · skip
        replace hb7 := of_decide_eq_false hb7
        refine AW.skip ?_
        refine AW.seq ?_
        refine AW.region ?_
        refine AO.xs rfl rfl rfl (XS.move rfl) ?_
        refine AO.xs rfl rfl rfl (XS.move rfl) ?_
        refine AO.xs rfl rfl rfl ((XS.convSm rfl (us rfl) (ik rfl) (by rw [IntKind.wrap_u8]; omega))) ?_
        refine AO.xs rfl rfl rfl ((XS.toI (XS.indexN rfl rfl (st rfl) (show _ < 256 by omega)) (lenTab_at (by omega)))) ?_
        refine AO.xs rfl rfl rfl (XS.convI rfl (us rfl) (ik rfl) (by omega)) ?_
        refine AO.xs rfl rfl rfl (XS.addI rfl rfl (by omega)) ?_
        refine AO.xs rfl rfl rfl (XS.assign rfl) ?_
        refine AO.nil ?_
        refine AW.ret ?_
        exact ⟨_, rfl, intEq (by omega)⟩

set_option maxRecDepth 100000 in
theorem lz64_c {x : Nat} (hx : x < 18446744073709551616) : AC Try.prog 132 [.im (.int .u64 (x : Int))] (fun d => d = intD ((64 - nl 2 x : Nat) : Int)) := by
  refine AC.intro Try.func132 Try.ntmps132 Try.results132 rfl (by simp) (fun w0 T => ?_)
  have h1 := (nl_le (b := 2) (k := 64) (by decide)).2 hx
  refine AW.seq ?_
  refine AW.region ?_
  refine AO.xs rfl rfl rfl (XS.assign rfl) ?_
  refine AO.nil ?_
  refine AW.seq ?_
  refine AW.region ?_
  refine AO.xs rfl rfl rfl (XS.move rfl) ?_
  refine AO.xs rfl rfl rfl (XS.call rfl (by kernel_rfl) rfl (len64_c (by omega))) ?_
  refine AO.xs rfl rfl rfl (XS.subN (m := 64) rfl rfl (by omega)) ?_
  refine AO.xs rfl rfl rfl (XS.assign rfl) ?_
  refine AO.nil ?_
  refine AW.ret ?_
  exact ⟨_, rfl, rfl⟩

set_option maxRecDepth 100000 in
theorem size_c {n : Nat} (hn : nl 18446744073709551616 n ≤ 1048576) : AC Try.prog 76 [natD n] (fun d => d = intD ((nl 2 n : Nat) : Int)) := by
  refine AC.intro Try.func76 Try.ntmps76 Try.results76 rfl (by simp) (fun w0 T => ?_)
  refine AW.seq ?_
  refine AW.region ?_
  refine AO.xs rfl rfl rfl (XS.assign rfl) ?_
  refine AO.nil ?_
  refine AW.seq ?_
  refine AW.seq ?_
  refine AW.region ?_
  refine AO.xs rfl rfl rfl (XS.move rfl) ?_
  refine AO.xs rfl rfl rfl (XS.lenL rfl (el rfl)) ?_
  refine AO.xs rfl rfl rfl (XS.int rfl rfl rfl) ?_
  refine AO.nil ?_
  refine AW.cond rfl (fun hb1 => ?_) (fun hb1 => ?_)
  · skip
    replace hb1 := eq_of_beq hb1
    refine AW.seq ?_
    refine AW.region ?_
    refine AO.xs rfl rfl rfl (XS.assign rfl) ?_
    refine AO.nil ?_
    refine AW.ret ?_
    obtain rfl : n = 0 := (nl_eq_zero (b := 18446744073709551616) (by decide)).1 (by omega)
    exact ⟨_, rfl, by rw [nl_zero]; rfl⟩
  · skip
    replace hb1 := ne_of_beq_false hb1
    have h0 : n ≠ 0 := fun e => by subst e; rw [nl_zero] at hb1; omega
    have h1 := nl_top64 h0
    have h2 : nl 2 (n / 18446744073709551616 ^ (nl 18446744073709551616 n - 1) % 18446744073709551616) ≤ 64 := (nl_le (by decide)).2 (Nat.mod_lt _ (by decide))
    refine AW.skip ?_
    refine AW.seq ?_
    refine AW.region ?_
    refine AO.xs rfl rfl rfl (XS.move rfl) ?_
    refine AO.xs rfl rfl rfl (XS.lenL rfl (el rfl)) ?_
    refine AO.xs rfl rfl rfl (XS.mulN (m := 64) rfl rfl (by omega)) ?_
    refine AO.xs rfl rfl rfl (XS.move rfl) ?_
    refine AO.xs rfl rfl rfl (XS.move rfl) ?_
    refine AO.xs rfl rfl rfl (XS.lenL rfl (el rfl)) ?_
    refine AO.xs rfl rfl rfl (XS.subN (n := 1) rfl rfl (by omega)) ?_
    refine AO.xs rfl rfl rfl (XS.indexL rfl rfl (el rfl) (by omega)) ?_
    refine AO.xs rfl rfl rfl (XS.loadE rfl (on rfl) rfl) ?_
    refine AO.xs rfl rfl rfl (XS.call rfl (by kernel_rfl) rfl (lz64_c (Nat.mod_lt _ (by decide)))) ?_
    refine AO.xs rfl rfl rfl (XS.subN rfl rfl (by omega)) ?_
    refine AO.xs rfl rfl rfl (XS.assign rfl) ?_
    refine AO.nil ?_
    refine AW.ret ?_
    exact ⟨_, rfl, intEq (by omega)⟩

set_option maxRecDepth 100000 in
theorem text_c {n : Nat} (hn : nl 18446744073709551616 n ≤ 1048576) : AC Try.prog 91 [natD n] (fun d => d = strD (strN n)) := by
  refine AC.intro Try.func91 Try.ntmps91 Try.results91 rfl (by simp) (fun w0 T => ?_)
  have h8 := nl8 n
  have h64 := nl64 n
  refine AW.seq ?_
  refine AW.region ?_
  refine AO.xs rfl rfl rfl (XS.assign rfl) ?_
  refine AO.nil ?_
  refine AW.seq ?_
  refine AW.region ?_
  refine AO.lit0 rfl rfl (ap rfl) ?_
  refine AO.xs rfl rfl rfl (XS.assign rfl) ?_
  refine AO.nil ?_
  refine AW.seq ?_
  refine AW.seq ?_
  refine AW.region ?_
  refine AO.xs rfl rfl rfl (XS.move rfl) ?_
  refine AO.xs rfl rfl rfl (XS.call rfl (by kernel_rfl) rfl (size_c (by assumption))) ?_
  refine AO.xs rfl rfl rfl (XS.addN (n := 7) rfl rfl (by omega)) ?_
  refine AO.xs rfl rfl rfl (XS.quoI (n := 8) rfl rfl (by omega) (by omega)) ?_
  refine AO.xs rfl rfl rfl (XS.assign rfl) ?_
  refine AO.nil ?_
  refine AW.block ?_
  refine AW.loop [0, 2] (fun k => [(3, .r 0 (nl 256 n - k) 1), (4, .d (intD ((k : Nat) : Int)))]) (fun k => [nkD .u8 (fx 256 (nl 256 n - k) (n / 256 ^ k)).reverse]) (fun k => k ≤ nl 256 n) (fun k => k) (nl 256 n) (Nat.le_refl _) ⟨lk_S rfl (by rw [Nat.sub_self]; rfl), lk_D rfl (intEq (by omega)), trivial⟩ ⟨⟨_, rfl, rfl⟩, ⟨_, rfl, rfl⟩, trivial⟩ (by rw [Nat.sub_self]; rfl) ?_
  intro k hk
  refine AW.seq ?_
  refine AW.seq ?_
  refine AW.region ?_
  refine AO.xs rfl rfl rfl (XS.move rfl) ?_
  refine AO.xs rfl rfl rfl (XS.int rfl rfl rfl) ?_
  refine AO.nil ?_
  refine AW.cond rfl (fun hb1 => ?_) (fun hb1 => ?_)
  · skip
    replace hb1 := of_decide_eq_true hb1
    refine AW.skip ?_
    refine AW.seq ?_
    refine AW.block ?_
    refine AW.region ?_
    refine AO.xs rfl rfl rfl (XS.move rfl) ?_
    refine AO.xs rfl rfl rfl (XS.move rfl) ?_
    refine AO.xs rfl rfl rfl (XS.move rfl) ?_
    refine AO.xs rfl rfl rfl (XS.subN (n := 1) rfl rfl (by omega)) ?_
    refine AO.xs rfl rfl rfl (XS.quoI (n := 8) rfl rfl (by omega) (by omega)) ?_
    refine AO.xs rfl rfl rfl (XS.indexL rfl rfl (el rfl) (by omega)) ?_
    refine AO.xs rfl rfl rfl (XS.loadE rfl (on rfl) rfl) ?_
    refine AO.xs rfl rfl rfl (XS.move rfl) ?_
    refine AO.xs rfl rfl rfl (XS.subN (n := 1) rfl rfl (by omega)) ?_
    refine AO.xs rfl rfl rfl (XS.remI (n := 8) rfl rfl (by omega)) ?_
    refine AO.xs rfl rfl rfl (XS.mulN (m := 8) rfl rfl (by omega)) ?_
    refine AO.xs rfl rfl rfl (XS.shrU rfl rfl (by omega)) ?_
    refine AO.xs rfl rfl rfl (XS.convU8 rfl (us rfl) (ik rfl)) ?_
    refine AO.xs rfl rfl rfl (XS.buildSlice (ap rfl) rfl rfl rfl (by decide)) ?_
    refine AO.appendL rfl rfl rfl rfl (ap rfl) (el rfl) (Nat.zero_le _) rfl (by rw [List.length_reverse, fx_len]) (by omega) (by simp only [maxLen]; omega) rfl ?_
    refine AO.xs rfl rfl rfl (XS.assign rfl) ?_
    refine AO.nil ?_
    refine AW.region ?_
    refine AO.xs rfl rfl rfl (XS.move rfl) ?_
    refine AO.xs rfl rfl rfl (XS.subN (n := 1) rfl rfl (by omega)) ?_
    refine AO.xs rfl rfl rfl (XS.assign rfl) ?_
    refine AO.nil ?_
    exact ⟨k - 1, (by omega), (by dsimp only; omega), ⟨lk_S rfl (by congr 1; omega), rfl, trivial⟩, ⟨⟨_, rfl, rfl⟩, ⟨_, rfl, rfl⟩, trivial⟩, (congrArg (fun z => [nkD .u8 z]) (text_step (by omega) hk))⟩
  · skip
    replace hb1 := of_decide_eq_false hb1
    refine AW.exit ?_
    refine AW.seq ?_
    refine AW.region ?_
    refine AO.xs rfl rfl rfl (XS.move rfl) ?_
    refine AO.freezeL 29 rfl (Nat.zero_le _) rfl (by rw [List.length_reverse, fx_len]) ?_
    refine AO.xs rfl rfl rfl (XS.strOf rfl (sb rfl)) ?_
    refine AO.xs rfl rfl rfl (XS.assign rfl) ?_
    refine AO.nil ?_
    refine AW.ret ?_
    obtain rfl : k = 0 := by omega
    exact ⟨_, rfl, by rw [Nat.pow_zero, Nat.div_one]; rfl⟩

end Go.Proofs.Ytgafdhpagifpcaa.C
