/-
  OWN WORK, printed by wip/tools/gen.py out of the translation and of the contracts in wip/specs.
-/
import Derived.Test.YtgafdhpagifpcaaC13
import Derived.Test.YtgafdhpagifpcaaAvK
import Derived.Test.YtgafdhpagifpcaaN6
namespace Go.Proofs.Ytgafdhpagifpcaa.C
open Go Go.RowKit Go.Proofs.Ytgafdhpagifpcaa.Av Go.Proofs.Ytgafdhpagifpcaa.Ty Go.Proofs.Ytgafdhpagifpcaa.Num
set_option linter.unusedVariables false

set_option maxRecDepth 100000 in
theorem mul64_c {x y : Nat} (hx : x < 18446744073709551616) (hy : y < 18446744073709551616) : AC Try.prog 163 [.im (.int .u64 (x : Int)), .im (.int .u64 (y : Int))] (fun d => d = .tu [.im (.int .u64 ((x * y / 18446744073709551616 : Nat) : Int)), .im (.int .u64 ((x * y % 18446744073709551616 : Nat) : Int))]) := by
  refine AC.intro Try.func163 Try.ntmps163 Try.results163 rfl (by simp) (fun w0 T => ?_)
  obtain ⟨hA, hB, hC, hD⟩ := Go.Lib.mul64_hi x y hx hy
  have q1 := Go.Lib.half_mul_le (a := x % 4294967296) (b := y % 4294967296) (by omega) (by omega)
  have q2 := Go.Lib.half_mul_le (a := x / 4294967296) (b := y % 4294967296) (by omega) (by omega)
  have q3 := Go.Lib.half_mul_le (a := x % 4294967296) (b := y / 4294967296) (by omega) (by omega)
  have q4 := Go.Lib.half_mul_le (a := x / 4294967296) (b := y / 4294967296) (by omega) (by omega)
  refine AW.seq ?_
  refine AW.region ?_
  refine AO.xs rfl rfl rfl (XS.assign rfl) ?_
  refine AO.xs rfl rfl rfl (XS.assign rfl) ?_
  refine AO.nil ?_
  refine AW.seq ?_
  refine AW.region ?_
  refine AO.xs rfl rfl rfl (XS.move rfl) ?_
  refine AO.xs rfl rfl rfl (XS.mask32 rfl rfl (by omega)) ?_
  refine AO.xs rfl rfl rfl (XS.assign rfl) ?_
  refine AO.nil ?_
  refine AW.seq ?_
  refine AW.region ?_
  refine AO.xs rfl rfl rfl (XS.move rfl) ?_
  refine AO.xs rfl rfl rfl (XS.shrU (n := 32) rfl rfl (by omega)) ?_
  refine AO.xs rfl rfl rfl (XS.assign rfl) ?_
  refine AO.nil ?_
  refine AW.seq ?_
  refine AW.region ?_
  refine AO.xs rfl rfl rfl (XS.move rfl) ?_
  refine AO.xs rfl rfl rfl (XS.mask32 rfl rfl (by omega)) ?_
  refine AO.xs rfl rfl rfl (XS.assign rfl) ?_
  refine AO.nil ?_
  refine AW.seq ?_
  refine AW.region ?_
  refine AO.xs rfl rfl rfl (XS.move rfl) ?_
  refine AO.xs rfl rfl rfl (XS.shrU (n := 32) rfl rfl (by omega)) ?_
  refine AO.xs rfl rfl rfl (XS.assign rfl) ?_
  refine AO.nil ?_
  refine AW.seq ?_
  refine AW.region ?_
  refine AO.xs rfl rfl rfl (XS.move rfl) ?_
  refine AO.xs rfl rfl rfl (XS.move rfl) ?_
  refine AO.xs rfl rfl rfl (XS.mulU rfl rfl) ?_
  refine AO.xs rfl rfl rfl (XS.assign rfl) ?_
  refine AO.nil ?_
  refine AW.seq ?_
  refine AW.region ?_
  refine AO.xs rfl rfl rfl (XS.move rfl) ?_
  refine AO.xs rfl rfl rfl (XS.move rfl) ?_
  refine AO.xs rfl rfl rfl (XS.mulU rfl rfl) ?_
  refine AO.xs rfl rfl rfl (XS.move rfl) ?_
  refine AO.xs rfl rfl rfl (XS.shrU (n := 32) rfl rfl (by omega)) ?_
  refine AO.xs rfl rfl rfl (XS.addU rfl rfl) ?_
  refine AO.xs rfl rfl rfl (XS.assign rfl) ?_
  refine AO.nil ?_
  refine AW.seq ?_
  refine AW.region ?_
  refine AO.xs rfl rfl rfl (XS.move rfl) ?_
  refine AO.xs rfl rfl rfl (XS.mask32 rfl rfl (by omega)) ?_
  refine AO.xs rfl rfl rfl (XS.assign rfl) ?_
  refine AO.nil ?_
  refine AW.seq ?_
  refine AW.region ?_
  refine AO.xs rfl rfl rfl (XS.move rfl) ?_
  refine AO.xs rfl rfl rfl (XS.shrU (n := 32) rfl rfl (by omega)) ?_
  refine AO.xs rfl rfl rfl (XS.assign rfl) ?_
  refine AO.nil ?_
  refine AW.seq ?_
  refine AW.region ?_
  refine AO.xs rfl rfl rfl (XS.move rfl) ?_
  refine AO.xs rfl rfl rfl (XS.move rfl) ?_
  refine AO.xs rfl rfl rfl (XS.move rfl) ?_
  refine AO.xs rfl rfl rfl (XS.mulU rfl rfl) ?_
  refine AO.xs rfl rfl rfl (XS.addU rfl rfl) ?_
  refine AO.xs rfl rfl rfl (XS.assign rfl) ?_
  refine AO.nil ?_
  refine AW.seq ?_
  refine AW.region ?_
  refine AO.xs rfl rfl rfl (XS.move rfl) ?_
  refine AO.xs rfl rfl rfl (XS.move rfl) ?_
  refine AO.xs rfl rfl rfl (XS.mulU rfl rfl) ?_
  refine AO.xs rfl rfl rfl (XS.move rfl) ?_
  refine AO.xs rfl rfl rfl (XS.addU rfl rfl) ?_
  refine AO.xs rfl rfl rfl (XS.move rfl) ?_
  refine AO.xs rfl rfl rfl (XS.shrU (n := 32) rfl rfl (by omega)) ?_
  refine AO.xs rfl rfl rfl (XS.addU rfl rfl) ?_
  refine AO.xs rfl rfl rfl (XS.assign rfl) ?_
  refine AO.nil ?_
  refine AW.seq ?_
  refine AW.region ?_
  refine AO.xs rfl rfl rfl (XS.move rfl) ?_
  refine AO.xs rfl rfl rfl (XS.move rfl) ?_
  refine AO.xs rfl rfl rfl (XS.mulU rfl rfl) ?_
  refine AO.xs rfl rfl rfl (XS.assign rfl) ?_
  refine AO.nil ?_
  refine AW.ret ?_
  refine ⟨_, rfl, ?_⟩
  refine congrArg Dv.tu (congr (congrArg List.cons (intEq (congrArg Nat.cast ?_))) rfl)
  rw [← hD]
  simp only [show (2 : Nat) ^ 32 = 4294967296 from rfl]
  generalize x / 4294967296 * (y / 4294967296) = A at *
  generalize x / 4294967296 * (y % 4294967296) = B at *
  generalize x % 4294967296 * (y / 4294967296) = C at *
  generalize x % 4294967296 * (y % 4294967296) = D at *
  omega

set_option maxRecDepth 100000 in
theorem times_c {a b : Nat} (ha : nl 18446744073709551616 a ≤ 524288) (hb : nl 18446744073709551616 b ≤ 524288) : AC Try.prog 139 [natD a, natD b] (fun d => d = natD (a * b)) := by
  refine AC.intro Try.func139 Try.ntmps139 Try.results139 rfl (by simp) (fun w0 T => ?_)
  refine AW.seq ?_
  refine AW.region ?_
  refine AO.xs rfl rfl rfl (XS.assign rfl) ?_
  refine AO.nil ?_
  refine AW.seq ?_
  refine AW.region ?_
  refine AO.xs rfl rfl rfl (XS.move rfl) ?_
  refine AO.xs rfl rfl rfl (XS.lenL rfl (el rfl)) ?_
  refine AO.xs rfl rfl rfl (XS.move rfl) ?_
  refine AO.xs rfl rfl rfl (XS.lenL rfl (el rfl)) ?_
  refine AO.xs rfl rfl rfl (XS.addN rfl rfl (by omega)) ?_
  refine AO.makeC (18446744073709551616) rfl rfl rfl rfl (ap rfl) (Nat.le_refl _) (by omega) ?_
  refine AO.xs rfl rfl rfl (XS.assign rfl) ?_
  refine AO.nil ?_
  refine AW.seq ?_
  refine AW.seq ?_
  refine AW.region ?_
  refine AO.xs rfl rfl rfl (XS.move rfl) ?_
  refine AO.xs rfl rfl rfl (XS.lenL rfl (el rfl)) ?_
  refine AO.xs rfl rfl rfl (XS.move rfl) ?_
  refine AO.nil ?_
  refine AW.block ?_
  refine AW.loop [1, 4, 5, 20, 21] (fun i => [(22, .d (intD ((i : Nat) : Int)))]) (fun i => [nkD .u64 (fx 18446744073709551616 (nl 18446744073709551616 a + nl 18446744073709551616 b) (a % 18446744073709551616 ^ i * b))]) (fun i => i ≤ nl 18446744073709551616 a) (fun i => nl 18446744073709551616 a - i) (0) (Nat.zero_le _) ⟨rfl, trivial⟩ ⟨⟨_, rfl, rfl⟩, ⟨_, rfl, rfl⟩, ⟨_, rfl, rfl⟩, ⟨_, rfl, rfl⟩, ⟨_, rfl, rfl⟩, trivial⟩ (congrArg (fun z => [nkD .u64 (fx 18446744073709551616 (nl 18446744073709551616 a + nl 18446744073709551616 b) z)]) (show 0 = a % 18446744073709551616 ^ 0 * b by rw [Nat.pow_zero, Nat.mod_one, Nat.zero_mul])) ?_
  intro i hi
  refine AW.seq ?_
  refine AW.region ?_
  refine AO.xs rfl rfl rfl (XS.int rfl rfl rfl) ?_
  refine AO.nil ?_
  refine AW.seq ?_
  refine AW.cond rfl (fun hb1 => ?_) (fun hb1 => ?_)
  · skip
    replace hb1 := of_decide_eq_true hb1
    refine AW.skip ?_
    refine AW.seq ?_
    refine AW.block ?_
    refine AW.seq ?_
    refine AW.region ?_
    refine AO.xs rfl rfl rfl (XS.move rfl) ?_
    refine AO.xs rfl rfl rfl (XS.indexL rfl rfl (el rfl) (by omega)) ?_
    refine AO.xs rfl rfl rfl (XS.loadE rfl (on rfl) rfl) ?_
    refine AO.xs rfl rfl rfl (XS.assign rfl) ?_
    refine AO.xs rfl rfl rfl (XS.assign rfl) ?_
    refine AO.nil ?_
    refine AW.seq ?_
    refine AW.region ?_
    refine AO.xs rfl rfl rfl (XS.assign rfl) ?_
    refine AO.nil ?_
    refine AW.seq ?_
    refine AW.seq ?_
    refine AW.region ?_
    refine AO.xs rfl rfl rfl (XS.move rfl) ?_
    refine AO.xs rfl rfl rfl (XS.lenL rfl (el rfl)) ?_
    refine AO.xs rfl rfl rfl (XS.move rfl) ?_
    refine AO.nil ?_
    refine AW.block ?_
    refine AW.loop [1, 4, 5, 6, 7, 20, 21, 22, 23, 24, 25, 26, 27, 28] (fun ((k, W, c) : Nat × Nat × Nat) => [(8, .d (.im (.int .u64 (c : Int)))), (29, .d (intD (k : Int)))]) (fun ((k, W, c) : Nat × Nat × Nat) => [nkD .u64 (fx 18446744073709551616 (nl 18446744073709551616 a + nl 18446744073709551616 b) W)]) (fun ((k, W, c) : Nat × Nat × Nat) => k ≤ nl 18446744073709551616 b ∧ c < 18446744073709551616 ∧ W < 18446744073709551616 ^ (i + nl 18446744073709551616 b) ∧ W + c * 18446744073709551616 ^ (i + k) = a % 18446744073709551616 ^ i * b + a / 18446744073709551616 ^ i % 18446744073709551616 * (b % 18446744073709551616 ^ k) * 18446744073709551616 ^ i) (fun ((k, W, c) : Nat × Nat × Nat) => nl 18446744073709551616 b - k) ((0, a % 18446744073709551616 ^ i * b, 0)) ⟨Nat.zero_le _, by decide, by rw [Nat.pow_add]; exact Nat.mul_lt_mul'' (Nat.mod_lt _ (Nat.pow_pos (by decide))) (lt_nl (by decide) b), by rw [Nat.pow_zero, Nat.mod_one]; simp⟩ ⟨rfl, rfl, trivial⟩ ⟨⟨_, rfl, rfl⟩, ⟨_, rfl, rfl⟩, ⟨_, rfl, rfl⟩, ⟨_, rfl, rfl⟩, ⟨_, rfl, rfl⟩, ⟨_, rfl, rfl⟩, ⟨_, rfl, rfl⟩, ⟨_, rfl, rfl⟩, ⟨_, rfl, rfl⟩, ⟨_, rfl, rfl⟩, ⟨_, rfl, rfl⟩, ⟨_, rfl, rfl⟩, ⟨_, rfl, rfl⟩, ⟨_, rfl, rfl⟩, trivial⟩ rfl ?_
    intro ⟨k, W, c⟩ ⟨hk, hc, hW, he⟩
    refine AW.seq ?_
    refine AW.region ?_
    refine AO.xs rfl rfl rfl (XS.int rfl rfl rfl) ?_
    refine AO.nil ?_
    refine AW.seq ?_
    refine AW.cond rfl (fun hb2 => ?_) (fun hb2 => ?_)
    · skip
      replace hb2 := of_decide_eq_true hb2
      refine AW.skip ?_
      refine AW.seq ?_
      refine AW.block ?_
      refine AW.seq ?_
      refine AW.region ?_
      refine AO.xs rfl rfl rfl (XS.move rfl) ?_
      refine AO.xs rfl rfl rfl (XS.indexL rfl rfl (el rfl) (by omega)) ?_
      refine AO.xs rfl rfl rfl (XS.loadE rfl (on rfl) rfl) ?_
      refine AO.xs rfl rfl rfl (XS.assign rfl) ?_
      refine AO.xs rfl rfl rfl (XS.assign rfl) ?_
      refine AO.nil ?_
      refine AW.seq ?_
      refine AW.region ?_
      refine AO.xs rfl rfl rfl (XS.move rfl) ?_
      refine AO.xs rfl rfl rfl (XS.move rfl) ?_
      refine AO.xs rfl rfl rfl (XS.call rfl (by kernel_rfl) rfl (mul64_c (Nat.mod_lt _ (by decide)) (Nat.mod_lt _ (by decide)))) ?_
      refine AO.xs rfl rfl rfl (XS.move rfl) ?_
      refine AO.xs rfl rfl rfl (XS.extract rfl rfl) ?_
      refine AO.xs rfl rfl rfl (XS.extract rfl rfl) ?_
      refine AO.xs rfl rfl rfl (XS.assign rfl) ?_
      refine AO.xs rfl rfl rfl (XS.assign rfl) ?_
      refine AO.nil ?_
      refine AW.seq ?_
      refine AW.region ?_
      refine AO.xs rfl rfl rfl (XS.move rfl) ?_
      refine AO.xs rfl rfl rfl (XS.move rfl) ?_
      refine AO.xs rfl rfl rfl (XS.move rfl) ?_
      refine AO.xs rfl rfl rfl (XS.move rfl) ?_
      refine AO.xs rfl rfl rfl (XS.addN rfl rfl (by omega)) ?_
      refine AO.xs rfl rfl rfl (XS.indexR1 rfl rfl (el rfl) (by omega)) ?_
      refine AO.xs rfl rfl rfl (XS.loadL rfl (on rfl) rfl (by omega)) ?_
      refine AO.xs rfl rfl rfl (XS.ext rfl rfl (run_add64N ext_add (k := 0) (by decide)) rfl rfl) ?_
      refine AO.xs rfl rfl rfl (XS.move rfl) ?_
      refine AO.xs rfl rfl rfl (XS.extract rfl rfl) ?_
      refine AO.xs rfl rfl rfl (XS.extract rfl rfl) ?_
      refine AO.xs rfl rfl rfl (XS.assign rfl) ?_
      refine AO.xs rfl rfl rfl (XS.assign rfl) ?_
      refine AO.nil ?_
      refine AW.seq ?_
      refine AW.region ?_
      refine AO.xs rfl rfl rfl (XS.move rfl) ?_
      refine AO.xs rfl rfl rfl (XS.move rfl) ?_
      refine AO.xs rfl rfl rfl (XS.addU rfl rfl) ?_
      refine AO.xs rfl rfl rfl (XS.assign rfl) ?_
      refine AO.nil ?_
      refine AW.seq ?_
      refine AW.region ?_
      refine AO.xs rfl rfl rfl (XS.move rfl) ?_
      refine AO.xs rfl rfl rfl (XS.move rfl) ?_
      refine AO.xs rfl rfl rfl (XS.ext rfl rfl (run_add64N ext_add (k := 0) (by decide)) rfl rfl) ?_
      refine AO.xs rfl rfl rfl (XS.move rfl) ?_
      refine AO.xs rfl rfl rfl (XS.extract rfl rfl) ?_
      refine AO.xs rfl rfl rfl (XS.extract rfl rfl) ?_
      refine AO.xs rfl rfl rfl (XS.assign rfl) ?_
      refine AO.xs rfl rfl rfl (XS.assign rfl) ?_
      refine AO.nil ?_
      refine AW.region ?_
      refine AO.xs rfl rfl rfl (XS.move rfl) ?_
      refine AO.xs rfl rfl rfl (XS.move rfl) ?_
      refine AO.xs rfl rfl rfl (XS.move rfl) ?_
      refine AO.xs rfl rfl rfl (XS.addN rfl rfl (by omega)) ?_
      refine AO.xs rfl rfl rfl (XS.move rfl) ?_
      refine AO.xs rfl rfl rfl (XS.move rfl) ?_
      refine AO.xs rfl rfl rfl (XS.move rfl) ?_
      refine AO.xs rfl rfl rfl (XS.addU rfl rfl) ?_
      refine AO.xs rfl rfl rfl (XS.indexR1 rfl rfl (el rfl) (by omega)) ?_
      obtain ⟨W2, e1, e2, e3⟩ := mul_next (by decide) he hW (by omega) (Nat.mod_lt _ (by decide)) (mul_carry (Nat.mod_lt _ (by decide)) (Nat.mod_lt _ (by decide)) (Nat.mod_lt _ (by decide)) hc)
      refine AO.storeL rfl rfl rfl (sz rfl) rfl (by omega) (fx_set (by decide) (by omega) (Nat.mod_lt _ (by decide)) e1) rfl ?_
      refine AO.xs rfl rfl rfl (XS.assign rfl) ?_
      refine AO.nil ?_
      refine AW.region ?_
      refine AO.xs rfl rfl rfl (XS.addN (n := 1) rfl rfl (by omega)) ?_
      refine AO.xs rfl rfl rfl (XS.move rfl) ?_
      refine AO.nil ?_
      exact ⟨(k + 1, W2, _), ⟨by omega, Nat.mod_lt _ (by decide), e2, by rw [mod_succ b]; exact e3⟩, (by dsimp only; omega), ⟨rfl, rfl, trivial⟩, ⟨⟨_, rfl, rfl⟩, ⟨_, rfl, rfl⟩, ⟨_, rfl, rfl⟩, ⟨_, rfl, rfl⟩, ⟨_, rfl, rfl⟩, ⟨_, rfl, rfl⟩, ⟨_, rfl, rfl⟩, ⟨_, rfl, rfl⟩, ⟨_, rfl, rfl⟩, ⟨_, rfl, rfl⟩, ⟨_, rfl, rfl⟩, ⟨_, rfl, rfl⟩, ⟨_, rfl, rfl⟩, ⟨_, rfl, rfl⟩, trivial⟩, rfl⟩
    · skip
      replace hb2 := of_decide_eq_false hb2
      obtain rfl : k = nl 18446744073709551616 b := by omega
      have hT : W + c * 18446744073709551616 ^ (i + nl 18446744073709551616 b) = a % 18446744073709551616 ^ (i + 1) * b := by rw [he, Nat.mod_eq_of_lt (lt_nl (by decide) b), times_next]
      refine AW.exit ?_
      refine AW.region ?_
      refine AO.xs rfl rfl rfl (XS.move rfl) ?_
      refine AO.xs rfl rfl rfl (XS.move rfl) ?_
      refine AO.xs rfl rfl rfl (XS.move rfl) ?_
      refine AO.xs rfl rfl rfl (XS.lenL rfl (el rfl)) ?_
      refine AO.xs rfl rfl rfl (XS.addN rfl rfl (by omega)) ?_
      refine AO.xs rfl rfl rfl (XS.move rfl) ?_
      refine AO.xs rfl rfl rfl (XS.indexR1 rfl rfl (el rfl) (by omega)) ?_
      refine AO.storeL rfl rfl rfl (sz rfl) rfl (by omega) (mul_last (by decide) hT hW (by omega) hc) rfl ?_
      refine AO.nil ?_
      refine AW.region ?_
      refine AO.xs rfl rfl rfl (XS.addN (n := 1) rfl rfl (by omega)) ?_
      refine AO.xs rfl rfl rfl (XS.move rfl) ?_
      refine AO.nil ?_
      exact ⟨i + 1, (by omega), (by dsimp only; omega), ⟨rfl, trivial⟩, ⟨⟨_, rfl, rfl⟩, ⟨_, rfl, rfl⟩, ⟨_, rfl, rfl⟩, ⟨_, rfl, rfl⟩, ⟨_, rfl, rfl⟩, trivial⟩, rfl⟩
  · skip
    replace hb1 := of_decide_eq_false hb1
    obtain rfl : i = nl 18446744073709551616 a := by omega
    have hm : a % 18446744073709551616 ^ nl 18446744073709551616 a = a := Nat.mod_eq_of_lt (lt_nl (by decide) a)
    refine AW.setH (congrArg (fun z => [nkD .u64 (fx 18446744073709551616 (nl 18446744073709551616 a + nl 18446744073709551616 b) (z * b))]) hm) ?_
    have hlt : a * b < 18446744073709551616 ^ (nl 18446744073709551616 a + nl 18446744073709551616 b) := by rw [Nat.pow_add]; exact Nat.mul_lt_mul'' (lt_nl (by decide) a) (lt_nl (by decide) b)
    refine AW.exit ?_
    refine AW.seq ?_
    refine AW.region ?_
    refine AO.xs rfl rfl rfl (XS.move rfl) ?_
    refine AO.freezeL 78 rfl (Nat.zero_le _) rfl (fx_len _ _ _).symm ?_
    refine AO.xs rfl rfl rfl (XS.call rfl (by kernel_rfl) rfl (trim_c (by omega) hlt)) ?_
    refine AO.xs rfl rfl rfl (XS.assign rfl) ?_
    refine AO.nil ?_
    refine AW.ret ?_
    exact ⟨_, rfl, rfl⟩


def leadOk (s : ByteArray) : Prop := s ≠ ⟨#[]⟩ ∧ (s.size = 1 ∨ (s.data.getD 0 0).toNat ≠ 48)
noncomputable def figN (s : ByteArray) : Nat := sel (figsOk s) (dN s s.size)
theorem fig_no {P Q : Prop} (h : ¬ P) (n : Nat) : Dv.tu [.sl [], boolD false] = .tu [natD (sel P n), boolD (eqP (P ∧ Q))] := by rw [sel_no h, natD_zero, eqP_no (fun k => h k.1)]
theorem fig_end {P Q : Prop} {n m : Nat} {b : Bool} (hp : P) (hn : n = m) (hb : b = eqP Q) : Dv.tu [natD n, boolD b] = .tu [natD (sel P m), boolD (eqP (P ∧ Q))] := by
  rw [sel_yes hp, hn, hb, eqP_congr (show Q ↔ P ∧ Q from ⟨fun h => ⟨hp, h⟩, fun h => h.2⟩)]
theorem nl_one {n : Nat} (h : n < 18446744073709551616) : nl 18446744073709551616 n ≤ 1 := (nl_le (by decide)).2 (by rw [Nat.pow_one]; exact h)


theorem isf_next {s : ByteArray} {i : Nat} (h : ∀ j, j < i → isFig (s.data.getD j 0)) (h1 : isFig (s.data.getD i 0)) : ∀ j, j < i + 1 → isFig (s.data.getD j 0) := fun j hj => by
  rcases Nat.lt_or_ge j i with h2 | h2
  · exact h j h2
  · rw [show j = i by omega]; exact h1
theorem dN_fig {s : ByteArray} {i : Nat} (h : ∀ j, j < i → isFig (s.data.getD j 0)) : dN s i < 10 ^ i ∨ s.size < i := by
  rcases Nat.lt_or_ge s.size i with h1 | h1
  · exact .inr h1
  · left
    clear h1
    induction i with
    | zero => simp [dN_zero]
    | succ i ih =>
      rcases Nat.lt_or_ge i s.size with h2 | h2
      · have h3 := ih (fun j hj => h j (by omega))
        have h4 := h i (by omega)
        rw [dN_succ h2, Nat.pow_succ]
        unfold isFig at h4; omega
      · have h3 := ih (fun j hj => h j (by omega))
        have : dN s (i + 1) = dN s i := by
          unfold dN
          rw [List.take_of_length_le (by rw [Array.length_toList]; exact Nat.le_succ_of_le h2), List.take_of_length_le (by rw [Array.length_toList]; exact h2)]
        rw [this, Nat.pow_succ]; omega


theorem nl_mono_ten {s : ByteArray} {i O w q : Nat} (hf : Fig s i O w q) (hd : ∀ j, j < i → isFig (s.data.getD j 0)) (hi : i ≤ 1000 ∧ i ≤ s.size) : nl 18446744073709551616 O ≤ 1001 := by
  have h1 := hf.le
  have h2 := (dN_fig hd).resolve_right (by omega)
  have h3 := nl_ten (Nat.lt_of_le_of_lt h1 h2)
  omega

set_option maxRecDepth 100000 in
theorem fromFigures_c {s : ByteArray} (hs : s.size ≤ 1000) : AC Try.prog 172 [strD s] (fun d => d = .tu [natD (figN s), boolD (eqP (figsOk s ∧ leadOk s))]) := by
  refine AC.intro Try.func172 Try.ntmps172 Try.results172 rfl (by simp) (fun w0 T => ?_)
  refine AW.seq ?_
  refine AW.region ?_
  refine AO.xs rfl rfl rfl (XS.assign rfl) ?_
  refine AO.xs rfl rfl rfl (XS.assign rfl) ?_
  refine AO.nil ?_
  refine AW.seq ?_
  refine AW.region ?_
  refine AO.xs rfl rfl rfl (XS.assign rfl) ?_
  refine AO.xs rfl rfl rfl (XS.assign rfl) ?_
  refine AO.xs rfl rfl rfl (XS.assign rfl) ?_
  refine AO.nil ?_
  refine AW.seq ?_
  refine AW.seq ?_
  refine AW.unnil 4 rfl ?_
  refine AW.region ?_
  refine AO.xs rfl rfl rfl (XS.move rfl) ?_
  refine AO.xs rfl rfl rfl (XS.lenStr rfl (st rfl)) ?_
  refine AO.xs rfl rfl rfl (XS.move rfl) ?_
  refine AO.nil ?_
  refine AW.block ?_
  refine AW.loop (α := Nat × Nat × Nat × Nat) [0, 10] (fun ((i, O, w, q) : Nat × Nat × Nat × Nat) => [(4, .d (natD O)), (5, .d (intD (w : Int))), (6, .d (intD (q : Int))), (11, .d (intD (i : Int)))]) (fun _ => _) (fun ((i, O, w, q) : Nat × Nat × Nat × Nat) => i ≤ s.size ∧ Fig s i O w q ∧ ∀ j, j < i → isFig (s.data.getD j 0)) (fun ((i, O, w, q) : Nat × Nat × Nat × Nat) => s.size - i) ((0, 0, 0, 1)) ⟨Nat.zero_le _, Fig.start s, by omega⟩ ⟨lk_D rfl natD_zero.symm, rfl, rfl, rfl, trivial⟩ ⟨⟨_, rfl, rfl⟩, ⟨_, rfl, rfl⟩, trivial⟩ rfl ?_
  intro ⟨i, O, w, q⟩ ⟨hi, hf, hd⟩
  refine AW.seq ?_
  refine AW.region ?_
  refine AO.xs rfl rfl rfl (XS.int rfl rfl rfl) ?_
  refine AO.nil ?_
  refine AW.seq ?_
  refine AW.cond rfl (fun hb1 => ?_) (fun hb1 => ?_)
  · skip
    replace hb1 := of_decide_eq_true hb1
    have hj := (s.data.getD i 0).toNat_lt
    have hq := hf.q_le (by omega)
    have hw := hf.lt
    refine AW.skip ?_
    refine AW.seq ?_
    refine AW.block ?_
    refine AW.seq ?_
    refine AW.region ?_
    refine AO.xs rfl rfl rfl (XS.move rfl) ?_
    refine AO.xs rfl rfl rfl (XS.assign rfl) ?_
    refine AO.nil ?_
    refine AW.seq ?_
    refine AW.region ?_
    refine AO.xs rfl rfl rfl (XS.move rfl) ?_
    refine AO.xs rfl rfl rfl (XS.move rfl) ?_
    refine AO.xs rfl rfl rfl (XS.indexN rfl rfl (st rfl) (by omega)) ?_
    refine AO.xs rfl rfl rfl (XS.assign rfl) ?_
    refine AO.nil ?_
    refine AW.seq ?_
    refine AW.seq ?_
    refine AW.region ?_
    refine AO.xs rfl rfl rfl (XS.move rfl) ?_
    refine AO.xs rfl rfl rfl (XS.int rfl rfl rfl) ?_
    refine AO.xs rfl rfl rfl (XS.move rfl) ?_
    refine AO.split 19 rfl (fun hg2 => ?_) (fun hg2 => ?_)
    · skip
      have hg2n := of_decide_eq_true hg2
      refine AO.gno rfl rfl rfl rfl rfl rfl hg2 (by decide) rfl ?_
      refine AO.gno rfl rfl rfl rfl rfl rfl hg2 (by decide) rfl ?_
      refine AO.xs rfl rfl rfl (XS.pickT rfl rfl hg2) ?_
      refine AO.nil ?_
      refine AW.condT rfl rfl ?_
      refine AW.seq ?_
      refine AW.region ?_
      refine AO.xs rfl rfl rfl (XS.assign rfl) ?_
      refine AO.xs rfl rfl rfl (XS.assign rfl) ?_
      refine AO.nil ?_
      refine AW.ret ?_
      exact ⟨_, rfl, fig_no (fun h => by have := h i (by omega); unfold isFig at this; omega) _⟩
    · skip
      have hg2n := of_decide_eq_false hg2
      refine AO.gyes rfl rfl rfl rfl rfl rfl hg2 rfl (XS.move rfl) ?_
      refine AO.gyes rfl rfl rfl rfl rfl rfl hg2 rfl (XS.int rfl rfl rfl) ?_
      refine AO.xs rfl rfl rfl (XS.pickF rfl rfl hg2) ?_
      refine AO.nil ?_
      refine AW.cond rfl (fun hb3 => ?_) (fun hb3 => ?_)
      · skip
        replace hb3 := of_decide_eq_true hb3
        refine AW.seq ?_
        refine AW.region ?_
        refine AO.xs rfl rfl rfl (XS.assign rfl) ?_
        refine AO.xs rfl rfl rfl (XS.assign rfl) ?_
        refine AO.nil ?_
        refine AW.ret ?_
        exact ⟨_, rfl, fig_no (fun h => by have := h i (by omega); unfold isFig at this; omega) _⟩
      · skip
        replace hb3 := of_decide_eq_false hb3
        refine AW.skip ?_
        refine AW.seq ?_
        refine AW.region ?_
        refine AO.xs rfl rfl rfl (XS.move rfl) ?_
        refine AO.xs rfl rfl rfl (XS.mulN (m := 10) rfl rfl (by omega)) ?_
        refine AO.xs rfl rfl rfl (XS.move rfl) ?_
        refine AO.xs rfl rfl rfl (XS.subB (n := 48) rfl rfl (by omega)) ?_
        refine AO.xs rfl rfl rfl (XS.convI rfl (us rfl) (ik rfl) (by omega)) ?_
        refine AO.xs rfl rfl rfl (XS.addN rfl rfl (by omega)) ?_
        refine AO.xs rfl rfl rfl (XS.move rfl) ?_
        refine AO.xs rfl rfl rfl (XS.mulN (m := 10) rfl rfl (by omega)) ?_
        refine AO.xs rfl rfl rfl (XS.assign rfl) ?_
        refine AO.xs rfl rfl rfl (XS.assign rfl) ?_
        refine AO.nil ?_
        refine AW.seq ?_
        refine AW.region ?_
        refine AO.xs rfl rfl rfl (XS.move rfl) ?_
        refine AO.xs rfl rfl rfl (XS.remI (n := 18) rfl rfl (by omega)) ?_
        refine AO.xs rfl rfl rfl (XS.int rfl rfl rfl) ?_
        refine AO.xs rfl rfl rfl (XS.move rfl) ?_
        refine AO.split 34 rfl (fun hg4 => ?_) (fun hg4 => ?_)
        · skip
          have hg4n := eq_of_beq hg4
          refine AO.gno rfl rfl rfl rfl rfl rfl hg4 (by decide) rfl ?_
          refine AO.gno rfl rfl rfl rfl rfl rfl hg4 (by decide) rfl ?_
          refine AO.gno rfl rfl rfl rfl rfl rfl hg4 (by decide) rfl ?_
          refine AO.gno rfl rfl rfl rfl rfl rfl hg4 (by decide) rfl ?_
          refine AO.gno rfl rfl rfl rfl rfl rfl hg4 (by decide) rfl ?_
          refine AO.xs rfl rfl rfl (XS.pickT rfl rfl hg4) ?_
          refine AO.nil ?_
          refine AW.condT rfl rfl ?_
          refine AW.seq ?_
          refine AW.region ?_
          refine AO.xs rfl rfl rfl (XS.move rfl) ?_
          refine AO.xs rfl rfl rfl (XS.move rfl) ?_
          have n1 : nl 18446744073709551616 O ≤ 1001 := nl_mono_ten hf hd (by omega)
          have n2 := nl_one (n := 10 * q) (by omega)
          have n3 := nl_mul (b := 18446744073709551616) (m := O) (n := 10 * q) (by decide)
          have n4 := nl_one (n := 10 * w + ((s.data.getD i 0).toNat - 48)) (by omega)
          refine AO.xs rfl rfl rfl (XS.call rfl (by kernel_rfl) rfl (small_c (by omega))) ?_
          refine AO.xs rfl rfl rfl (XS.call rfl (by kernel_rfl) rfl (times_c (by omega) (by omega))) ?_
          refine AO.xs rfl rfl rfl (XS.move rfl) ?_
          refine AO.xs rfl rfl rfl (XS.call rfl (by kernel_rfl) rfl (small_c (by omega))) ?_
          refine AO.xs rfl rfl rfl (XS.call rfl (by kernel_rfl) rfl (plus_c (by omega) (by omega))) ?_
          refine AO.xs rfl rfl rfl (XS.assign rfl) ?_
          refine AO.nil ?_
          refine AW.region ?_
          refine AO.xs rfl rfl rfl (XS.assign rfl) ?_
          refine AO.xs rfl rfl rfl (XS.assign rfl) ?_
          refine AO.nil ?_
          refine AW.region ?_
          refine AO.xs rfl rfl rfl (XS.addN (n := 1) rfl rfl (by omega)) ?_
          refine AO.xs rfl rfl rfl (XS.move rfl) ?_
          refine AO.nil ?_
          exact ⟨(i + 1, O * (10 * q) + (10 * w + ((s.data.getD i 0).toNat - 48)), 0, 1), ⟨by omega, hf.cut (by omega) rfl (.inl (by omega)), isf_next hd ⟨by omega, by omega⟩⟩, (by dsimp only; omega), ⟨rfl, rfl, rfl, rfl, trivial⟩, ⟨⟨_, rfl, rfl⟩, ⟨_, rfl, rfl⟩, trivial⟩, rfl⟩
        · skip
          have hg4n := ne_of_beq_false hg4
          refine AO.gyes rfl rfl rfl rfl rfl rfl hg4 rfl (XS.move rfl) ?_
          refine AO.gyes rfl rfl rfl rfl rfl rfl hg4 rfl (XS.move rfl) ?_
          refine AO.gyes rfl rfl rfl rfl rfl rfl hg4 rfl (XS.lenStr rfl (st rfl)) ?_
          refine AO.gyes rfl rfl rfl rfl rfl rfl hg4 rfl (XS.subN (n := 1) rfl rfl (by omega)) ?_
          refine AO.gyes rfl rfl rfl rfl rfl rfl hg4 rfl (XS.int rfl rfl rfl) ?_
          refine AO.xs rfl rfl rfl (XS.pickF rfl rfl hg4) ?_
          refine AO.nil ?_
          refine AW.cond rfl (fun hb5 => ?_) (fun hb5 => ?_)
          · skip
            replace hb5 := eq_of_beq hb5
            refine AW.seq ?_
            refine AW.region ?_
            refine AO.xs rfl rfl rfl (XS.move rfl) ?_
            refine AO.xs rfl rfl rfl (XS.move rfl) ?_
            have n1 : nl 18446744073709551616 O ≤ 1001 := nl_mono_ten hf hd (by omega)
            have n2 := nl_one (n := 10 * q) (by omega)
            have n3 := nl_mul (b := 18446744073709551616) (m := O) (n := 10 * q) (by decide)
            have n4 := nl_one (n := 10 * w + ((s.data.getD i 0).toNat - 48)) (by omega)
            refine AO.xs rfl rfl rfl (XS.call rfl (by kernel_rfl) rfl (small_c (by omega))) ?_
            refine AO.xs rfl rfl rfl (XS.call rfl (by kernel_rfl) rfl (times_c (by omega) (by omega))) ?_
            refine AO.xs rfl rfl rfl (XS.move rfl) ?_
            refine AO.xs rfl rfl rfl (XS.call rfl (by kernel_rfl) rfl (small_c (by omega))) ?_
            refine AO.xs rfl rfl rfl (XS.call rfl (by kernel_rfl) rfl (plus_c (by omega) (by omega))) ?_
            refine AO.xs rfl rfl rfl (XS.assign rfl) ?_
            refine AO.nil ?_
            refine AW.region ?_
            refine AO.xs rfl rfl rfl (XS.assign rfl) ?_
            refine AO.xs rfl rfl rfl (XS.assign rfl) ?_
            refine AO.nil ?_
            refine AW.region ?_
            refine AO.xs rfl rfl rfl (XS.addN (n := 1) rfl rfl (by omega)) ?_
            refine AO.xs rfl rfl rfl (XS.move rfl) ?_
            refine AO.nil ?_
            exact ⟨(i + 1, O * (10 * q) + (10 * w + ((s.data.getD i 0).toNat - 48)), 0, 1), ⟨by omega, hf.cut (by omega) rfl (.inr (by omega)), isf_next hd ⟨by omega, by omega⟩⟩, (by dsimp only; omega), ⟨rfl, rfl, rfl, rfl, trivial⟩, ⟨⟨_, rfl, rfl⟩, ⟨_, rfl, rfl⟩, trivial⟩, rfl⟩
          · skip
            replace hb5 := ne_of_beq_false hb5
            refine AW.skip ?_
            refine AW.region ?_
            refine AO.xs rfl rfl rfl (XS.addN (n := 1) rfl rfl (by omega)) ?_
            refine AO.xs rfl rfl rfl (XS.move rfl) ?_
            refine AO.nil ?_
            exact ⟨(i + 1, O, 10 * w + ((s.data.getD i 0).toNat - 48), 10 * q), ⟨by omega, hf.go (by omega) rfl (by omega) (by omega) (by omega), isf_next hd ⟨by omega, by omega⟩⟩, (by dsimp only; omega), ⟨rfl, rfl, rfl, rfl, trivial⟩, ⟨⟨_, rfl, rfl⟩, ⟨_, rfl, rfl⟩, trivial⟩, rfl⟩
  · skip
    replace hb1 := of_decide_eq_false hb1
    refine AW.exit ?_
    refine AW.seq ?_
    refine AW.drawn2 [] [] mix (Nat.zero_le _) rfl rfl ?_
    refine DC2.cons rfl rfl rfl (XS.move rfl) ?_
    refine DC2.cons rfl rfl rfl (XS.move rfl) ?_
    refine DC2.cons rfl rfl rfl (XS.strNe rfl rfl) ?_
    refine DC2.cons rfl rfl rfl (XS.move rfl) ?_
    refine DC2.split 52 rfl (fun hg6 => ?_) (fun hg6 => ?_)
    · skip
      have hg6n := eqP_iff.1 hg6
      refine DC2.gyes rfl rfl rfl rfl rfl rfl hg6 rfl (XS.move rfl) ?_
      refine DC2.gyes rfl rfl rfl rfl rfl rfl hg6 rfl (XS.lenStr rfl (st rfl)) ?_
      refine DC2.gyes rfl rfl rfl rfl rfl rfl hg6 rfl (XS.int rfl rfl rfl) ?_
      refine DC2.gyes rfl rfl rfl rfl rfl rfl hg6 rfl (XS.move rfl) ?_
      refine DC2.split 56 rfl (fun hg7 => ?_) (fun hg7 => ?_)
      · skip
        have hg7n := eq_of_beq hg7
        refine DC2.gno rfl rfl rfl rfl rfl rfl hg7 (by decide) rfl ?_
        refine DC2.gno rfl rfl rfl rfl rfl rfl hg7 (by decide) rfl ?_
        refine DC2.gno rfl rfl rfl rfl rfl rfl hg7 (by decide) rfl ?_
        refine DC2.gyes rfl rfl rfl rfl rfl rfl hg6 rfl (XS.pickT rfl rfl hg7) ?_
        refine DC2.cons rfl rfl rfl (XS.pickT rfl rfl hg6) ?_
        refine DC2.cons rfl rfl rfl (XS.assign rfl) ?_
        refine DC2.cons rfl rfl rfl (XS.assign rfl) ?_
        refine DC2.any rfl (by kernel_rfl) ?_
        refine AY.nil (by kernel_rfl) ?_
        refine AW.ret ?_
        obtain rfl : i = s.size := by omega
        exact ⟨_, rfl, fig_end (P := figsOk s) hd hf.done ((eqP_yes ⟨hg6n, .inl (by omega)⟩).symm)⟩
      · skip
        have hg7n := ne_of_beq_false hg7
        refine DC2.gyes rfl rfl rfl rfl rfl rfl hg7 rfl (XS.move rfl) ?_
        refine DC2.gyes rfl rfl rfl rfl rfl rfl hg7 rfl (XS.indexN (j := 0) rfl rfl (st rfl) (size_pos (by assumption))) ?_
        refine DC2.gyes rfl rfl rfl rfl rfl rfl hg7 rfl (XS.int rfl rfl rfl) ?_
        refine DC2.gyes rfl rfl rfl rfl rfl rfl hg6 rfl (XS.pickF rfl rfl hg7) ?_
        refine DC2.cons rfl rfl rfl (XS.pickT rfl rfl hg6) ?_
        refine DC2.cons rfl rfl rfl (XS.assign rfl) ?_
        refine DC2.cons rfl rfl rfl (XS.assign rfl) ?_
        refine DC2.any rfl (by kernel_rfl) ?_
        refine AY.nil (by kernel_rfl) ?_
        refine AW.ret ?_
        obtain rfl : i = s.size := by omega
        exact ⟨_, rfl, fig_end (P := figsOk s) hd hf.done (b_eqP (by rw [bne_iff_ne]; exact ⟨fun h => ⟨hg6n, .inr (by omega)⟩, fun h => by rcases h.2 with h | h <;> omega⟩))⟩
    · skip
      have hg6n := eqP_false.1 hg6
      refine DC2.gno rfl rfl rfl rfl rfl rfl hg6 (by decide) rfl ?_
      refine DC2.gno rfl rfl rfl rfl rfl rfl hg6 (by decide) rfl ?_
      refine DC2.gno rfl rfl rfl rfl rfl rfl hg6 (by decide) rfl ?_
      refine DC2.gno rfl rfl rfl rfl rfl rfl hg6 (by decide) rfl ?_
      refine DC2.gnt rfl rfl rfl rfl rfl rfl rfl ?_
      refine DC2.gnt rfl rfl rfl rfl rfl rfl rfl ?_
      refine DC2.gnt rfl rfl rfl rfl rfl rfl rfl ?_
      refine DC2.gno rfl rfl rfl rfl rfl rfl hg6 (by decide) rfl ?_
      refine DC2.cons rfl rfl rfl (XS.pickF rfl rfl hg6) ?_
      refine DC2.cons rfl rfl rfl (XS.assign rfl) ?_
      refine DC2.cons rfl rfl rfl (XS.assign rfl) ?_
      refine DC2.any rfl (by kernel_rfl) ?_
      refine AY.nil (by kernel_rfl) ?_
      refine AW.ret ?_
      obtain rfl : i = s.size := by omega
      exact ⟨_, rfl, fig_end (P := figsOk s) hd hf.done ((eqP_no (fun h => hg6n h.1)).symm)⟩

end Go.Proofs.Ytgafdhpagifpcaa.C
