/-
  OWN WORK, printed by wip/tools/gen.py out of the translation and of the contracts in wip/specs.
-/
import Derived.Test.YtgafdhpagifpcaaC22
import Derived.Test.YtgafdhpagifpcaaC17
namespace Go.Proofs.Ytgafdhpagifpcaa.C
open Go Go.RowKit Go.Proofs.Ytgafdhpagifpcaa.Av Go.Proofs.Ytgafdhpagifpcaa.Ty Go.Proofs.Ytgafdhpagifpcaa.Num
set_option linter.unusedVariables false


theorem mul24_eq {d m c : Nat} : (d + m + c) % 16777216 + (d + m + c) / 2 ^ 24 * 16777216 = m + d + c := by
  show (d + m + c) % 16777216 + (d + m + c) / 16777216 * 16777216 = m + d + c
  omega
theorem mul24_c {d m c : Nat} (hd : d < 16777216) (hm : m ≤ 16777215 * 16777215) (hc : c < 16777216) : (d + m + c) / 2 ^ 24 < 16777216 := by
  show (d + m + c) / 16777216 < 16777216
  omega
theorem lim1 {m : Nat} (hm : m ≤ 16777215 * 16777215) : m < 9223372036854775808 := by omega
theorem lim2 {d m : Nat} (hd : d < 16777216) (hm : m ≤ 16777215 * 16777215) : d + m < 9223372036854775808 := by omega
theorem lim3 {d m c : Nat} (hd : d < 16777216) (hm : m ≤ 16777215 * 16777215) (hc : c < 16777216) : d + m + c < 9223372036854775808 := by omega

set_option maxRecDepth 100000 in
theorem l02Mul_c {a b : Nat} (ha : nl 16777216 a ≤ 524288) (hb : nl 16777216 b ≤ 524288) : AC Try.prog 102 [limD a, limD b] (fun d => d = limD (a * b)) := by
  refine AC.intro Try.func102 Try.ntmps102 Try.results102 rfl (by simp) (fun w0 T => ?_)
  refine AW.seq ?_
  refine AW.region ?_
  refine AO.xs rfl rfl rfl (XS.assign rfl) ?_
  refine AO.nil ?_
  refine AW.seq ?_
  refine AW.region ?_
  refine AO.xs rfl rfl rfl (XS.move rfl) ?_
  refine AO.xs rfl rfl rfl (XS.lenL rfl (el rfl)) ?_
  refine AO.xs rfl rfl rfl (XS.move rfl) ?_
  refine AO.xs rfl rfl rfl (XS.lenL rfl (el rfl)) ?_
  refine AO.xs rfl rfl rfl (XS.addN rfl rfl (by omega)) ?_
  refine AO.makeC (16777216) rfl rfl rfl rfl (ap rfl) (Nat.le_refl _) (by omega) ?_
  refine AO.xs rfl rfl rfl (XS.assign rfl) ?_
  refine AO.nil ?_
  refine AW.seq ?_
  refine AW.seq ?_
  refine AW.region ?_
  refine AO.xs rfl rfl rfl (XS.assign rfl) ?_
  refine AO.nil ?_
  refine AW.block ?_
  refine AW.loop [0, 1, 4, 5] (fun i => [(6, .d (intD ((i : Nat) : Int)))]) (fun i => [nkD .i64 (fx 16777216 (nl 16777216 a + nl 16777216 b) (a % 16777216 ^ i * b))]) (fun i => i ≤ nl 16777216 a) (fun i => nl 16777216 a - i) (0) (Nat.zero_le _) ⟨rfl, trivial⟩ ⟨⟨_, rfl, rfl⟩, ⟨_, rfl, rfl⟩, ⟨_, rfl, rfl⟩, ⟨_, rfl, rfl⟩, trivial⟩ (congrArg (fun z => [nkD .i64 (fx 16777216 (nl 16777216 a + nl 16777216 b) z)]) (show 0 = a % 16777216 ^ 0 * b by rw [Nat.pow_zero, Nat.mod_one, Nat.zero_mul])) ?_
  intro i hi
  refine AW.seq ?_
  refine AW.seq ?_
  refine AW.region ?_
  refine AO.xs rfl rfl rfl (XS.move rfl) ?_
  refine AO.xs rfl rfl rfl (XS.move rfl) ?_
  refine AO.xs rfl rfl rfl (XS.lenL rfl (el rfl)) ?_
  refine AO.xs rfl rfl rfl (XS.int rfl rfl rfl) ?_
  refine AO.nil ?_
  refine AW.cond rfl (fun hb1 => ?_) (fun hb1 => ?_)
  · skip
    replace hb1 := of_decide_eq_true hb1
    refine AW.skip ?_
    refine AW.seq ?_
    refine AW.block ?_
    refine AW.seq ?_
    refine AW.region ?_
    refine AO.xs rfl rfl rfl (XS.assign rfl) ?_
    refine AO.nil ?_
    refine AW.seq ?_
    refine AW.seq ?_
    refine AW.region ?_
    refine AO.xs rfl rfl rfl (XS.assign rfl) ?_
    refine AO.nil ?_
    refine AW.block ?_
    refine AW.loop (α := Nat × Nat × Nat) [0, 1, 4, 5, 6, 16, 17, 18, 19] (fun ((k, W, c) : Nat × Nat × Nat) => [(7, .d (intD (c : Int))), (8, .d (intD (k : Int)))]) (fun ((k, W, c) : Nat × Nat × Nat) => [nkD .i64 (fx 16777216 (nl 16777216 a + nl 16777216 b) W)]) (fun ((k, W, c) : Nat × Nat × Nat) => k ≤ nl 16777216 b ∧ c < 16777216 ∧ W < 16777216 ^ (i + nl 16777216 b) ∧ W + c * 16777216 ^ (i + k) = a % 16777216 ^ i * b + a / 16777216 ^ i % 16777216 * (b % 16777216 ^ k) * 16777216 ^ i) (fun ((k, W, c) : Nat × Nat × Nat) => nl 16777216 b - k) ((0, a % 16777216 ^ i * b, 0)) ⟨Nat.zero_le _, by decide, by rw [Nat.pow_add]; exact Nat.mul_lt_mul'' (Nat.mod_lt _ (Nat.pow_pos (by decide))) (lt_nl (by decide) b), by rw [Nat.pow_zero, Nat.mod_one]; simp⟩ ⟨rfl, rfl, trivial⟩ ⟨⟨_, rfl, rfl⟩, ⟨_, rfl, rfl⟩, ⟨_, rfl, rfl⟩, ⟨_, rfl, rfl⟩, ⟨_, rfl, rfl⟩, ⟨_, rfl, rfl⟩, ⟨_, rfl, rfl⟩, ⟨_, rfl, rfl⟩, ⟨_, rfl, rfl⟩, trivial⟩ rfl ?_
    intro ⟨k, W, c⟩ ⟨hk, hc, hW, he⟩
    have hmm : a / 16777216 ^ i % 16777216 * (b / 16777216 ^ k % 16777216) ≤ 16777215 * 16777215 := Nat.mul_le_mul (Nat.le_sub_one_of_lt (Nat.mod_lt _ (by decide))) (Nat.le_sub_one_of_lt (Nat.mod_lt _ (by decide)))
    have hdd : W / 16777216 ^ (i + k) % 16777216 < 16777216 := Nat.mod_lt _ (by decide)
    refine AW.seq ?_
    refine AW.seq ?_
    refine AW.region ?_
    refine AO.xs rfl rfl rfl (XS.move rfl) ?_
    refine AO.xs rfl rfl rfl (XS.move rfl) ?_
    refine AO.xs rfl rfl rfl (XS.lenL rfl (el rfl)) ?_
    refine AO.xs rfl rfl rfl (XS.int rfl rfl rfl) ?_
    refine AO.nil ?_
    refine AW.cond rfl (fun hb2 => ?_) (fun hb2 => ?_)
    · skip
      replace hb2 := of_decide_eq_true hb2
      refine AW.skip ?_
      refine AW.seq ?_
      refine AW.block ?_
      refine AW.seq ?_
      refine AW.drawn mix ?_
      refine DC.cons rfl rfl rfl (XS.move rfl) ?_
      refine DC.cons rfl rfl rfl (XS.move rfl) ?_
      refine DC.cons rfl rfl rfl (XS.move rfl) ?_
      refine DC.cons rfl rfl rfl (XS.addN rfl rfl (by omega)) ?_
      refine DC.cons rfl rfl rfl (XS.indexR1 rfl rfl (el rfl) (by omega)) ?_
      refine DC.cons rfl rfl rfl (XS.loadL rfl (on rfl) rfl (by omega)) ?_
      refine DC.cons rfl rfl rfl (XS.move rfl) ?_
      refine DC.cons rfl rfl rfl (XS.move rfl) ?_
      refine DC.cons rfl rfl rfl (XS.indexL rfl rfl (el rfl) (by omega)) ?_
      refine DC.cons rfl rfl rfl (XS.loadE rfl (on rfl) rfl) ?_
      refine DC.cons rfl rfl rfl (XS.move rfl) ?_
      refine DC.cons rfl rfl rfl (XS.move rfl) ?_
      refine DC.cons rfl rfl rfl (XS.indexL rfl rfl (el rfl) (by omega)) ?_
      refine DC.cons rfl rfl rfl (XS.loadE rfl (on rfl) rfl) ?_
      refine DC.cons rfl rfl rfl (XS.mulN rfl rfl (lim1 hmm)) ?_
      refine DC.cons rfl rfl rfl (XS.addN rfl rfl (lim2 hdd hmm)) ?_
      refine DC.cons rfl rfl rfl (XS.move rfl) ?_
      refine DC.cons rfl rfl rfl (XS.addN rfl rfl (lim3 hdd hmm hc)) ?_
      refine DC.cons rfl rfl rfl (XS.assign rfl) ?_
      refine DC.done (by kernel_rfl) ?_
      refine AO.nil ?_
      refine AW.seq ?_
      obtain ⟨W2, e1, e2, e3⟩ := mul_next (by decide) he hW (by omega) (Nat.mod_lt _ (by decide)) (mul24_eq (d := W / 16777216 ^ (i + k) % 16777216) (m := a / 16777216 ^ i % 16777216 * (b / 16777216 ^ k % 16777216)) (c := c))
      refine AW.region ?_
      refine AO.xs rfl rfl rfl (XS.move rfl) ?_
      refine AO.xs rfl rfl rfl (XS.move rfl) ?_
      refine AO.xs rfl rfl rfl (XS.move rfl) ?_
      refine AO.xs rfl rfl rfl (XS.addN rfl rfl (by omega)) ?_
      refine AO.xs rfl rfl rfl (XS.move rfl) ?_
      refine AO.xs rfl rfl rfl (XS.maskN rfl rfl) ?_
      refine AO.xs rfl rfl rfl (XS.indexR1 rfl rfl (el rfl) (by omega)) ?_
      refine AO.storeL rfl rfl rfl (sz rfl) rfl (by omega) (fx_set (by decide) (by omega) (Nat.mod_lt _ (by decide)) e1) rfl ?_
      refine AO.nil ?_
      refine AW.region ?_
      refine AO.xs rfl rfl rfl (XS.move rfl) ?_
      refine AO.xs rfl rfl rfl (XS.shrI (n := 24) rfl rfl (by omega)) ?_
      refine AO.xs rfl rfl rfl (XS.assign rfl) ?_
      refine AO.nil ?_
      refine AW.region ?_
      refine AO.xs rfl rfl rfl (XS.move rfl) ?_
      refine AO.xs rfl rfl rfl (XS.addN (n := 1) rfl rfl (by omega)) ?_
      refine AO.xs rfl rfl rfl (XS.assign rfl) ?_
      refine AO.nil ?_
      exact ⟨(k + 1, W2, _), ⟨by omega, mul24_c hdd hmm hc, e2, by rw [mod_succ b]; exact e3⟩, (by dsimp only; omega), ⟨rfl, rfl, trivial⟩, ⟨⟨_, rfl, rfl⟩, ⟨_, rfl, rfl⟩, ⟨_, rfl, rfl⟩, ⟨_, rfl, rfl⟩, ⟨_, rfl, rfl⟩, ⟨_, rfl, rfl⟩, ⟨_, rfl, rfl⟩, ⟨_, rfl, rfl⟩, ⟨_, rfl, rfl⟩, trivial⟩, rfl⟩
    · skip
      replace hb2 := of_decide_eq_false hb2
      obtain rfl : k = nl 16777216 b := by omega
      have hT : W + c * 16777216 ^ (i + nl 16777216 b) = a % 16777216 ^ (i + 1) * b := by rw [he, Nat.mod_eq_of_lt (lt_nl (by decide) b), times_next]
      refine AW.exit ?_
      refine AW.region ?_
      refine AO.xs rfl rfl rfl (XS.move rfl) ?_
      refine AO.xs rfl rfl rfl (XS.move rfl) ?_
      refine AO.xs rfl rfl rfl (XS.move rfl) ?_
      refine AO.xs rfl rfl rfl (XS.lenL rfl (el rfl)) ?_
      refine AO.xs rfl rfl rfl (XS.addN rfl rfl (by omega)) ?_
      refine AO.xs rfl rfl rfl (XS.move rfl) ?_
      refine AO.xs rfl rfl rfl (XS.indexR1 rfl rfl (el rfl) (by omega)) ?_
      refine AO.storeL rfl rfl rfl (sz rfl) rfl (by omega) (mul_last (by decide) hT hW (by omega) hc) rfl ?_
      refine AO.nil ?_
      refine AW.region ?_
      refine AO.xs rfl rfl rfl (XS.move rfl) ?_
      refine AO.xs rfl rfl rfl (XS.addN (n := 1) rfl rfl (by omega)) ?_
      refine AO.xs rfl rfl rfl (XS.assign rfl) ?_
      refine AO.nil ?_
      exact ⟨i + 1, (by omega), (by dsimp only; omega), ⟨rfl, trivial⟩, ⟨⟨_, rfl, rfl⟩, ⟨_, rfl, rfl⟩, ⟨_, rfl, rfl⟩, ⟨_, rfl, rfl⟩, trivial⟩, rfl⟩
  · skip
    replace hb1 := of_decide_eq_false hb1
    obtain rfl : i = nl 16777216 a := by omega
    have hm : a % 16777216 ^ nl 16777216 a = a := Nat.mod_eq_of_lt (lt_nl (by decide) a)
    refine AW.setH (congrArg (fun z => [nkD .i64 (fx 16777216 (nl 16777216 a + nl 16777216 b) (z * b))]) hm) ?_
    have hlt : a * b < 16777216 ^ (nl 16777216 a + nl 16777216 b) := by rw [Nat.pow_add]; exact Nat.mul_lt_mul'' (lt_nl (by decide) a) (lt_nl (by decide) b)
    refine AW.exit ?_
    refine AW.seq ?_
    refine AW.region ?_
    refine AO.xs rfl rfl rfl (XS.move rfl) ?_
    refine AO.freezeL 62 rfl (Nat.zero_le _) rfl (fx_len _ _ _).symm ?_
    refine AO.xs rfl rfl rfl (XS.call rfl (by kernel_rfl) rfl (l02Trim_c (by omega) hlt)) ?_
    refine AO.xs rfl rfl rfl (XS.assign rfl) ?_
    refine AO.nil ?_
    refine AW.ret ?_
    exact ⟨_, rfl, rfl⟩

set_option maxRecDepth 100000 in
theorem rest_c {a b : Nat} (hb0 : 0 < b) (ha : nl 18446744073709551616 a ≤ 524288) (hb : nl 18446744073709551616 b ≤ 524288) : AC Try.prog 140 [natD a, natD b] (fun d => d = natD (a % b)) := by
  refine AC.intro Try.func140 Try.ntmps140 Try.results140 rfl (by simp) (fun w0 T => ?_)
  refine AW.seq ?_
  refine AW.region ?_
  refine AO.xs rfl rfl rfl (XS.assign rfl) ?_
  refine AO.nil ?_
  refine AW.seq ?_
  refine AW.region ?_
  refine AO.xs rfl rfl rfl (XS.move rfl) ?_
  refine AO.xs rfl rfl rfl (XS.move rfl) ?_
  refine AO.xs rfl rfl rfl (XS.call rfl (by kernel_rfl) rfl (over_c hb0 ha hb)) ?_
  refine AO.xs rfl rfl rfl (XS.move rfl) ?_
  refine AO.xs rfl rfl rfl (XS.extract rfl rfl) ?_
  refine AO.xs rfl rfl rfl (XS.extract rfl rfl) ?_
  refine AO.xs rfl rfl rfl (XS.assign rfl) ?_
  refine AO.xs rfl rfl rfl (XS.assign rfl) ?_
  refine AO.nil ?_
  refine AW.seq ?_
  refine AW.region ?_
  refine AO.xs rfl rfl rfl (XS.move rfl) ?_
  refine AO.xs rfl rfl rfl (XS.assign rfl) ?_
  refine AO.nil ?_
  refine AW.ret ?_
  exact ⟨_, rfl, rfl⟩


def mulM (p a b : Nat) : Nat := a * b % p
theorem mulM_lt {p a b : Nat} (ha : a < p) : mulM p a b < p := Nat.mod_lt _ (by omega)

set_option maxRecDepth 100000 in
theorem mul_c {p a b : Nat} (hp : p < P160) (ha : a < p) (hb : b < p) : AC Try.prog 93 [natD p, natD a, natD b] (fun d => d = natD (mulM p a b)) := by
  refine AC.intro Try.func93 Try.ntmps93 Try.results93 rfl (by simp) (fun w0 T => ?_)
  have n1 := nl_20 hp
  have n2 := nl_mono (b := 18446744073709551616) (by decide) (Nat.le_of_lt ha)
  have n3 := nl_mono (b := 18446744073709551616) (by decide) (Nat.le_of_lt hb)
  have n4 := nl_mul (b := 18446744073709551616) (m := a) (n := b) (by decide)
  refine AW.seq ?_
  refine AW.region ?_
  refine AO.xs rfl rfl rfl (XS.assign rfl) ?_
  refine AO.nil ?_
  refine AW.seq ?_
  refine AW.region ?_
  refine AO.xs rfl rfl rfl (XS.move rfl) ?_
  refine AO.xs rfl rfl rfl (XS.move rfl) ?_
  refine AO.xs rfl rfl rfl (XS.call rfl (by kernel_rfl) rfl (times_c (by omega) (by omega))) ?_
  refine AO.xs rfl rfl rfl (XS.move rfl) ?_
  refine AO.xs rfl rfl rfl (XS.call rfl (by kernel_rfl) rfl (rest_c (by omega) (by omega) (by omega))) ?_
  refine AO.xs rfl rfl rfl (XS.assign rfl) ?_
  refine AO.nil ?_
  refine AW.ret ?_
  exact ⟨_, rfl, rfl⟩

set_option maxRecDepth 100000 in
theorem l04Mul_c {p a b : Nat} (hp : p < P160) (ha : a < p) (hb : b < p) : AC Try.prog 110 [limD a, limD b, limD p] (fun d => d = limD (mulM p a b)) := by
  refine AC.intro Try.func110 Try.ntmps110 Try.results110 rfl (by simp) (fun w0 T => ?_)
  have n1 := nl_54 hp
  have n2 := nl_mono (b := 16777216) (by decide) (Nat.le_of_lt ha)
  have n3 := nl_mono (b := 16777216) (by decide) (Nat.le_of_lt hb)
  have n4 := nl_mul (b := 16777216) (m := a) (n := b) (by decide)
  refine AW.seq ?_
  refine AW.region ?_
  refine AO.xs rfl rfl rfl (XS.assign rfl) ?_
  refine AO.nil ?_
  refine AW.seq ?_
  refine AW.region ?_
  refine AO.xs rfl rfl rfl (XS.move rfl) ?_
  refine AO.xs rfl rfl rfl (XS.move rfl) ?_
  refine AO.xs rfl rfl rfl (XS.call rfl (by kernel_rfl) rfl (l02Mul_c (by omega) (by omega))) ?_
  refine AO.xs rfl rfl rfl (XS.move rfl) ?_
  refine AO.xs rfl rfl rfl (XS.call rfl (by kernel_rfl) rfl (l02Div_c (by omega) (by omega) (by omega))) ?_
  refine AO.xs rfl rfl rfl (XS.move rfl) ?_
  refine AO.xs rfl rfl rfl (XS.extract rfl rfl) ?_
  refine AO.xs rfl rfl rfl (XS.extract rfl rfl) ?_
  refine AO.xs rfl rfl rfl (XS.assign rfl) ?_
  refine AO.xs rfl rfl rfl (XS.assign rfl) ?_
  refine AO.nil ?_
  refine AW.seq ?_
  refine AW.region ?_
  refine AO.xs rfl rfl rfl (XS.move rfl) ?_
  refine AO.xs rfl rfl rfl (XS.assign rfl) ?_
  refine AO.nil ?_
  refine AW.ret ?_
  exact ⟨_, rfl, rfl⟩

set_option maxRecDepth 100000 in
theorem mul2_c {p a b e f : Nat} (hp : p < P160) (ha : a < p) (hb : b < p) (he : e < p) (hf : f < p) : AC Try.prog 69 [natD p, npD a b, npD e f] (fun d => d = npD (subM p (mulM p a e) (mulM p b f)) (addM p (mulM p a f) (mulM p b e))) := by
  refine AC.intro Try.func69 Try.ntmps69 Try.results69 rfl (by simp) (fun w0 T => ?_)
  refine AW.seq ?_
  refine AW.region ?_
  refine AO.box rfl rfl rfl rfl ?_
  refine AO.box rfl rfl rfl rfl ?_
  refine AO.alloc rfl rfl (ze rfl) ?_
  refine AO.nil ?_
  refine AW.seq ?_
  refine AW.drawn mix ?_
  refine DC.cons rfl rfl rfl (XS.move rfl) ?_
  refine DC.cons rfl rfl rfl (XS.move rfl) ?_
  refine DC.cons rfl rfl rfl (XS.field rfl (fo rfl)) ?_
  refine DC.cons rfl rfl rfl (XS.load rfl (on rfl) rfl rfl) ?_
  refine DC.cons rfl rfl rfl (XS.field rfl (fo rfl)) ?_
  refine DC.cons rfl rfl rfl (XS.load rfl (on rfl) rfl rfl) ?_
  refine DC.cons rfl rfl rfl (XS.call rfl (by kernel_rfl) rfl (mul_c hp ha he)) ?_
  refine DC.cons rfl rfl rfl (XS.move rfl) ?_
  refine DC.cons rfl rfl rfl (XS.field rfl (fo rfl)) ?_
  refine DC.cons rfl rfl rfl (XS.load rfl (on rfl) rfl rfl) ?_
  refine DC.cons rfl rfl rfl (XS.field rfl (fo rfl)) ?_
  refine DC.cons rfl rfl rfl (XS.load rfl (on rfl) rfl rfl) ?_
  refine DC.cons rfl rfl rfl (XS.call rfl (by kernel_rfl) rfl (mul_c hp hb hf)) ?_
  refine DC.cons rfl rfl rfl (XS.call rfl (by kernel_rfl) rfl (sub_c hp (mulM_lt ha) (mulM_lt hb))) ?_
  refine DC.cons rfl rfl rfl (XS.move rfl) ?_
  refine DC.cons rfl rfl rfl (XS.move rfl) ?_
  refine DC.cons rfl rfl rfl (XS.field rfl (fo rfl)) ?_
  refine DC.cons rfl rfl rfl (XS.load rfl (on rfl) rfl rfl) ?_
  refine DC.cons rfl rfl rfl (XS.field rfl (fo rfl)) ?_
  refine DC.cons rfl rfl rfl (XS.load rfl (on rfl) rfl rfl) ?_
  refine DC.cons rfl rfl rfl (XS.call rfl (by kernel_rfl) rfl (mul_c hp ha hf)) ?_
  refine DC.cons rfl rfl rfl (XS.move rfl) ?_
  refine DC.cons rfl rfl rfl (XS.field rfl (fo rfl)) ?_
  refine DC.cons rfl rfl rfl (XS.load rfl (on rfl) rfl rfl) ?_
  refine DC.cons rfl rfl rfl (XS.field rfl (fo rfl)) ?_
  refine DC.cons rfl rfl rfl (XS.load rfl (on rfl) rfl rfl) ?_
  refine DC.cons rfl rfl rfl (XS.call rfl (by kernel_rfl) rfl (mul_c hp hb he)) ?_
  refine DC.cons rfl rfl rfl (XS.call rfl (by kernel_rfl) rfl (add_c hp (mulM_lt ha) (mulM_lt hb))) ?_
  refine DC.cons rfl rfl rfl (XS.build (ze rfl) (pl rfl) rfl rfl) ?_
  refine DC.done (by kernel_rfl) ?_
  refine AO.store rfl rfl rfl rfl (sz rfl) rfl rfl rfl rfl ?_
  refine AO.nil ?_
  refine AW.ret ?_
  exact ⟨_, rfl, rfl⟩

set_option maxRecDepth 100000 in
theorem l07Mul_c {p a b e f : Nat} (hp : p < P160) (ha : a < p) (hb : b < p) (he : e < p) (hf : f < p) : AC Try.prog 68 [lpD a b, lpD e f, limD p] (fun d => d = lpD (subM p (mulM p a e) (mulM p b f)) (addM p (mulM p a f) (mulM p b e))) := by
  refine AC.intro Try.func68 Try.ntmps68 Try.results68 rfl (by simp) (fun w0 T => ?_)
  refine AW.seq ?_
  refine AW.region ?_
  refine AO.box rfl rfl rfl rfl ?_
  refine AO.box rfl rfl rfl rfl ?_
  refine AO.alloc rfl rfl (ze rfl) ?_
  refine AO.nil ?_
  refine AW.seq ?_
  refine AW.drawn mix ?_
  refine DC.cons rfl rfl rfl (XS.field rfl (fo rfl)) ?_
  refine DC.cons rfl rfl rfl (XS.load rfl (on rfl) rfl rfl) ?_
  refine DC.cons rfl rfl rfl (XS.field rfl (fo rfl)) ?_
  refine DC.cons rfl rfl rfl (XS.load rfl (on rfl) rfl rfl) ?_
  refine DC.cons rfl rfl rfl (XS.move rfl) ?_
  refine DC.cons rfl rfl rfl (XS.call rfl (by kernel_rfl) rfl (l04Mul_c hp ha he)) ?_
  refine DC.cons rfl rfl rfl (XS.field rfl (fo rfl)) ?_
  refine DC.cons rfl rfl rfl (XS.load rfl (on rfl) rfl rfl) ?_
  refine DC.cons rfl rfl rfl (XS.field rfl (fo rfl)) ?_
  refine DC.cons rfl rfl rfl (XS.load rfl (on rfl) rfl rfl) ?_
  refine DC.cons rfl rfl rfl (XS.move rfl) ?_
  refine DC.cons rfl rfl rfl (XS.call rfl (by kernel_rfl) rfl (l04Mul_c hp hb hf)) ?_
  refine DC.cons rfl rfl rfl (XS.move rfl) ?_
  refine DC.cons rfl rfl rfl (XS.call rfl (by kernel_rfl) rfl (l04Sub_c hp (mulM_lt ha) (mulM_lt hb))) ?_
  refine DC.cons rfl rfl rfl (XS.field rfl (fo rfl)) ?_
  refine DC.cons rfl rfl rfl (XS.load rfl (on rfl) rfl rfl) ?_
  refine DC.cons rfl rfl rfl (XS.field rfl (fo rfl)) ?_
  refine DC.cons rfl rfl rfl (XS.load rfl (on rfl) rfl rfl) ?_
  refine DC.cons rfl rfl rfl (XS.move rfl) ?_
  refine DC.cons rfl rfl rfl (XS.call rfl (by kernel_rfl) rfl (l04Mul_c hp ha hf)) ?_
  refine DC.cons rfl rfl rfl (XS.field rfl (fo rfl)) ?_
  refine DC.cons rfl rfl rfl (XS.load rfl (on rfl) rfl rfl) ?_
  refine DC.cons rfl rfl rfl (XS.field rfl (fo rfl)) ?_
  refine DC.cons rfl rfl rfl (XS.load rfl (on rfl) rfl rfl) ?_
  refine DC.cons rfl rfl rfl (XS.move rfl) ?_
  refine DC.cons rfl rfl rfl (XS.call rfl (by kernel_rfl) rfl (l04Mul_c hp hb he)) ?_
  refine DC.cons rfl rfl rfl (XS.move rfl) ?_
  refine DC.cons rfl rfl rfl (XS.call rfl (by kernel_rfl) rfl (l04Add_c hp (mulM_lt ha) (mulM_lt hb))) ?_
  refine DC.cons rfl rfl rfl (XS.build (ze rfl) (pl rfl) rfl rfl) ?_
  refine DC.done (by kernel_rfl) ?_
  refine AO.store rfl rfl rfl rfl (sz rfl) rfl rfl rfl rfl ?_
  refine AO.nil ?_
  refine AW.ret ?_
  exact ⟨_, rfl, rfl⟩


noncomputable def mulPr (x y : Pr) (p : ByteArray) : Pr := selPr (prOk x p ∧ prOk y p) ⟨strN (subM (beN p) (mulM (beN p) (beN x.a) (beN y.a)) (mulM (beN p) (beN x.b) (beN y.b))), strN (addM (beN p) (mulM (beN p) (beN x.a) (beN y.b)) (mulM (beN p) (beN x.b) (beN y.a)))⟩

set_option maxRecDepth 100000 in
theorem mulPairI_c {x y : Pr} {p : ByteArray} (hp : p.size ≤ 1048576) : AC Try.prog 22 [.ag x.cs, .ag y.cs, strD p] (fun d => d = .ag (mulPr x y p).cs) := by
  refine AC.intro Try.func22 Try.ntmps22 Try.results22 rfl (by simp) (fun w0 T => ?_)
  refine AW.seq ?_
  refine AW.region ?_
  refine AO.box rfl rfl rfl rfl ?_
  refine AO.box rfl rfl rfl rfl ?_
  refine AO.alloc rfl rfl (ze rfl) ?_
  refine AO.nil ?_
  refine AW.seq ?_
  refine AW.region ?_
  refine AO.xs rfl rfl rfl (XS.move rfl) ?_
  refine AO.xs rfl rfl rfl (XS.loadA rfl (ro rfl) (sz rfl) rfl (Nat.le_of_ble_eq_true rfl)) ?_
  refine AO.xs rfl rfl rfl (XS.loadA rfl (ro rfl) (sz rfl) rfl (Nat.le_of_ble_eq_true rfl)) ?_
  refine AO.xs rfl rfl rfl (XS.buildSlice (ap rfl) rfl rfl rfl (by decide)) ?_
  refine AO.xs rfl rfl rfl (XS.call rfl (by kernel_rfl) rfl (pairs_c (xs := [x, y]) hp (by simp))) ?_
  refine AO.xs rfl rfl rfl (XS.move rfl) ?_
  refine AO.xs rfl rfl rfl (XS.extract rfl rfl) ?_
  refine AO.xs rfl rfl rfl (XS.extract rfl rfl) ?_
  refine AO.xs rfl rfl rfl (XS.assign rfl) ?_
  refine AO.xs rfl rfl rfl (XS.assign rfl) ?_
  refine AO.nil ?_
  refine AW.seq ?_
  refine AW.seq ?_
  refine AW.region ?_
  refine AO.xs rfl rfl rfl (XS.move rfl) ?_
  refine AO.xs rfl rfl rfl (XS.not rfl) ?_
  refine AO.nil ?_
  refine AW.cond rfl (fun hb1 => ?_) (fun hb1 => ?_)
  · skip
    replace hb1 := eqP_false.1 (notT hb1)
    refine AW.seq ?_
    refine AW.region ?_
    refine AO.xs rfl rfl rfl (XS.build (ze rfl) (pl rfl) rfl rfl) ?_
    refine AO.store rfl rfl rfl rfl (sz rfl) rfl rfl rfl rfl ?_
    refine AO.nil ?_
    refine AW.ret ?_
    exact ⟨_, rfl, pr_no (fun h => hb1 (prs_two.2 h)) _⟩
  · skip
    replace hb1 := eqP_iff.1 (notF hb1)
    obtain ⟨hx, hy⟩ := prs_two.1 hb1
    have hq := hx.p
    have z1 := hx.sa
    have z2 := hx.sb
    have z3 := hy.sa
    have z4 := hy.sb
    have z5 := hx.sp
    refine AW.tell 7 rfl (congrArg natD (sel_yes hx.1 _)) ?_
    refine AW.skip ?_
    refine AW.seq ?_
    refine AW.drawn mix ?_
    refine DC.cons rfl rfl rfl (XS.move rfl) ?_
    refine DC.cons rfl rfl rfl (XS.loadA rfl (ro rfl) (sz rfl) rfl (Nat.le_of_ble_eq_true rfl)) ?_
    refine DC.cons rfl rfl rfl (XS.call rfl (by kernel_rfl) rfl (pairOf_c (by omega) (by omega))) ?_
    refine DC.cons rfl rfl rfl (XS.loadA rfl (ro rfl) (sz rfl) rfl (Nat.le_of_ble_eq_true rfl)) ?_
    refine DC.cons rfl rfl rfl (XS.call rfl (by kernel_rfl) rfl (pairOf_c (by omega) (by omega))) ?_
    refine DC.cons rfl rfl rfl (XS.call rfl (by kernel_rfl) rfl (mul2_c hq hx.a hx.b hy.a hy.b)) ?_
    refine DC.cons rfl rfl rfl (XS.call rfl (by kernel_rfl) rfl (told_c (lt160 (subM_lt (mulM_lt hx.a) (mulM_lt hx.b)) hq) (lt160 (addM_lt (mulM_lt hx.a) (mulM_lt hx.b)) hq))) ?_
    refine DC.done (by kernel_rfl) ?_
    refine AO.store rfl rfl rfl rfl (sz rfl) rfl rfl rfl rfl ?_
    refine AO.nil ?_
    refine AW.ret ?_
    exact ⟨_, rfl, pr_yes ⟨hx, hy⟩ _⟩

set_option maxRecDepth 100000 in
theorem mulPairS_c {x y : Pr} {p : ByteArray} : AC Try.prog 21 [.ag x.cs, .ag y.cs, strD p] (fun d => d = .ag (mulPr x y p).cs) := by
  refine AC.intro Try.func21 Try.ntmps21 Try.results21 rfl (by simp) (fun w0 T => ?_)
  refine AW.seq ?_
  refine AW.region ?_
  refine AO.box rfl rfl rfl rfl ?_
  refine AO.box rfl rfl rfl rfl ?_
  refine AO.alloc rfl rfl (ze rfl) ?_
  refine AO.nil ?_
  refine AW.seq ?_
  refine AW.seq ?_
  refine AW.region ?_
  refine AO.xs rfl rfl rfl (XS.loadA rfl (ro rfl) (sz rfl) rfl (Nat.le_of_ble_eq_true rfl)) ?_
  refine AO.xs rfl rfl rfl (XS.move rfl) ?_
  refine AO.xs rfl rfl rfl (XS.call rfl (by kernel_rfl) rfl (pairOkS_c (x := x))) ?_
  refine AO.xs rfl rfl rfl (XS.not rfl) ?_
  refine AO.xs rfl rfl rfl (XS.move rfl) ?_
  refine AO.split 11 rfl (fun hg1 => ?_) (fun hg1 => ?_)
  · skip
    have hg1n := eqP_false.1 (notT hg1)
    refine AO.gno rfl rfl rfl rfl rfl rfl hg1 (by decide) rfl ?_
    refine AO.gno rfl rfl rfl rfl rfl rfl hg1 (by decide) rfl ?_
    refine AO.gno rfl rfl rfl rfl rfl rfl hg1 (by decide) rfl ?_
    refine AO.gno rfl rfl rfl rfl rfl rfl hg1 (by decide) rfl ?_
    refine AO.xs rfl rfl rfl (XS.pickT rfl rfl hg1) ?_
    refine AO.nil ?_
    refine AW.condT rfl rfl ?_
    refine AW.seq ?_
    refine AW.region ?_
    refine AO.xs rfl rfl rfl (XS.build (ze rfl) (pl rfl) rfl rfl) ?_
    refine AO.store rfl rfl rfl rfl (sz rfl) rfl rfl rfl rfl ?_
    refine AO.nil ?_
    refine AW.ret ?_
    exact ⟨_, rfl, pr_no (fun h => hg1n h.1) _⟩
  · skip
    have hg1n := eqP_iff.1 (notF hg1)
    refine AO.gyes rfl rfl rfl rfl rfl rfl hg1 rfl (XS.loadA rfl (ro rfl) (sz rfl) rfl (Nat.le_of_ble_eq_true rfl)) ?_
    refine AO.gyes rfl rfl rfl rfl rfl rfl hg1 rfl (XS.move rfl) ?_
    refine AO.gyes rfl rfl rfl rfl rfl rfl hg1 rfl (XS.call rfl (by kernel_rfl) rfl (pairOkS_c (x := y))) ?_
    refine AO.gyes rfl rfl rfl rfl rfl rfl hg1 rfl (XS.not rfl) ?_
    refine AO.xs rfl rfl rfl (XS.pickF rfl rfl hg1) ?_
    refine AO.nil ?_
    refine AW.cond rfl (fun hb2 => ?_) (fun hb2 => ?_)
    · skip
      replace hb2 := eqP_false.1 (notT hb2)
      refine AW.seq ?_
      refine AW.region ?_
      refine AO.xs rfl rfl rfl (XS.build (ze rfl) (pl rfl) rfl rfl) ?_
      refine AO.store rfl rfl rfl rfl (sz rfl) rfl rfl rfl rfl ?_
      refine AO.nil ?_
      refine AW.ret ?_
      exact ⟨_, rfl, pr_no (fun h => hb2 h.2) _⟩
    · skip
      replace hb2 := eqP_iff.1 (notF hb2)
      have hx := hg1n
      have hy := hb2
      have hq := hx.p
      have z1 := hx.sa
      have z2 := hx.sb
      have z3 := hy.sa
      have z4 := hy.sb
      have z5 := hx.sp
      refine AW.skip ?_
      refine AW.seq ?_
      refine AW.drawn mix ?_
      refine DC.cons rfl rfl rfl (XS.loadA rfl (ro rfl) (sz rfl) rfl (Nat.le_of_ble_eq_true rfl)) ?_
      refine DC.cons rfl rfl rfl (XS.call rfl (by kernel_rfl) rfl (l07In_c (by omega) (by omega))) ?_
      refine DC.cons rfl rfl rfl (XS.loadA rfl (ro rfl) (sz rfl) rfl (Nat.le_of_ble_eq_true rfl)) ?_
      refine DC.cons rfl rfl rfl (XS.call rfl (by kernel_rfl) rfl (l07In_c (by omega) (by omega))) ?_
      refine DC.cons rfl rfl rfl (XS.move rfl) ?_
      refine DC.cons rfl rfl rfl (XS.call rfl (by kernel_rfl) rfl (l02In_c (by omega))) ?_
      refine DC.cons rfl rfl rfl (XS.call rfl (by kernel_rfl) rfl (l07Mul_c hq hx.a hx.b hy.a hy.b)) ?_
      refine DC.cons rfl rfl rfl (XS.call rfl (by kernel_rfl) rfl (l07Out_c (lt160 (subM_lt (mulM_lt hx.a) (mulM_lt hx.b)) hq) (lt160 (addM_lt (mulM_lt hx.a) (mulM_lt hx.b)) hq))) ?_
      refine DC.done (by kernel_rfl) ?_
      refine AO.store rfl rfl rfl rfl (sz rfl) rfl rfl rfl rfl ?_
      refine AO.nil ?_
      refine AW.ret ?_
      exact ⟨_, rfl, pr_yes ⟨hx, hy⟩ _⟩

set_option maxRecDepth 100000 in
theorem fnMulPair_c {x y : Pr} {p : ByteArray} (hx : x.ok) (hy : y.ok) (hp : p.size ≤ maxLen) : AC Try.prog 5 [.ag x.cs, .ag y.cs, strD p] (fun d => d = .im (.bool true)) := by
  refine AC.intro Try.func5 Try.ntmps5 Try.results5 rfl (by simp) (fun w0 T => ?_)
  simp only [maxLen] at hp
  refine AW.seq ?_
  refine AW.region ?_
  refine AO.box rfl rfl rfl rfl ?_
  refine AO.box rfl rfl rfl rfl ?_
  refine AO.xs rfl rfl rfl (XS.assign rfl) ?_
  refine AO.nil ?_
  refine AW.seq ?_
  refine AW.seq ?_
  refine AW.region ?_
  refine AO.xs rfl rfl rfl (XS.move rfl) ?_
  refine AO.xs rfl rfl rfl (XS.lenStr rfl (st rfl)) ?_
  refine AO.xs rfl rfl rfl (XS.int rfl rfl rfl) ?_
  refine AO.nil ?_
  refine AW.cond rfl (fun hb1 => ?_) (fun hb1 => ?_)
  · skip
    replace hb1 := of_decide_eq_true hb1
    refine AW.seq ?_
    refine AW.region ?_
    refine AO.xs rfl rfl rfl (XS.assign rfl) ?_
    refine AO.nil ?_
    refine AW.ret ?_
    exact ⟨_, rfl, rfl⟩
  · skip
    replace hb1 := of_decide_eq_false hb1
    refine AW.skip ?_
    refine AW.seq ?_
    refine AW.region ?_
    refine AO.xs rfl rfl rfl (XS.assign rfl) ?_
    refine AO.nil ?_
    refine AW.seq ?_
    refine AW.region ?_
    refine AO.xs rfl rfl rfl (XS.loadA rfl (ro rfl) (sz rfl) rfl (Nat.le_of_ble_eq_true rfl)) ?_
    refine AO.xs rfl rfl rfl (XS.move rfl) ?_
    refine AO.xs rfl rfl rfl (XS.call rfl (by kernel_rfl) rfl (szPair_c (by omega) hx)) ?_
    refine AO.xs rfl rfl rfl (XS.assign rfl) ?_
    refine AO.nil ?_
    refine AW.seq ?_
    refine AW.seq ?_
    refine AW.region ?_
    refine AO.xs rfl rfl rfl (XS.move rfl) ?_
    refine AO.xs rfl rfl rfl (XS.int rfl rfl rfl) ?_
    refine AO.nil ?_
    refine AW.cond rfl (fun hb2 => ?_) (fun hb2 => ?_)
    · skip
      replace hb2 := of_decide_eq_true hb2
      refine AW.seq ?_
      refine AW.region ?_
      refine AO.xs rfl rfl rfl (XS.assign rfl) ?_
      refine AO.nil ?_
      refine AW.ret ?_
      exact ⟨_, rfl, rfl⟩
    · skip
      replace hb2 := of_decide_eq_false hb2
      have k1 := left_ge hb2
      refine AW.skip ?_
      refine AW.seq ?_
      refine AW.region ?_
      refine AO.xs rfl rfl rfl (XS.loadA rfl (ro rfl) (sz rfl) rfl (Nat.le_of_ble_eq_true rfl)) ?_
      refine AO.xs rfl rfl rfl (XS.move rfl) ?_
      refine AO.xs rfl rfl rfl (XS.call rfl (by kernel_rfl) rfl (szPair_c (by omega) hy)) ?_
      refine AO.xs rfl rfl rfl (XS.assign rfl) ?_
      refine AO.nil ?_
      refine AW.seq ?_
      refine AW.seq ?_
      refine AW.region ?_
      refine AO.xs rfl rfl rfl (XS.move rfl) ?_
      refine AO.xs rfl rfl rfl (XS.int rfl rfl rfl) ?_
      refine AO.nil ?_
      refine AW.cond rfl (fun hb3 => ?_) (fun hb3 => ?_)
      · skip
        replace hb3 := of_decide_eq_true hb3
        refine AW.seq ?_
        refine AW.region ?_
        refine AO.xs rfl rfl rfl (XS.assign rfl) ?_
        refine AO.nil ?_
        refine AW.ret ?_
        exact ⟨_, rfl, rfl⟩
      · skip
        replace hb3 := of_decide_eq_false hb3
        refine AW.skip ?_
        refine AW.seq ?_
        refine AW.drawn2 [[.im (.string ⟨#[]⟩), .im (.string ⟨#[]⟩)]] [(6, 2)] mix (Nat.zero_le _) rfl rfl ?_
        refine DC2.cons rfl rfl rfl (XS.loadA rfl (ro rfl) (sz rfl) rfl (Nat.le_of_ble_eq_true rfl)) ?_
        refine DC2.cons rfl rfl rfl (XS.call rfl (by kernel_rfl) rfl toPair_c) ?_
        refine DC2.cons rfl rfl rfl (XS.loadA rfl (ro rfl) (sz rfl) rfl (Nat.le_of_ble_eq_true rfl)) ?_
        refine DC2.cons rfl rfl rfl (XS.call rfl (by kernel_rfl) rfl toPair_c) ?_
        refine DC2.cons rfl rfl rfl (XS.move rfl) ?_
        refine DC2.cons rfl rfl rfl (XS.call rfl (by kernel_rfl) rfl mulPairS_c) ?_
        refine DC2.al 2 rfl rfl (ze rfl) rfl rfl ?_
        refine DC2.done rfl (by kernel_rfl) ?_
        refine AO.store rfl rfl rfl rfl (sz rfl) rfl rfl rfl rfl ?_
        refine AO.nil ?_
        refine AW.seq ?_
        refine AW.drawn2 [[.im (.string ⟨#[]⟩), .im (.string ⟨#[]⟩)]] [(6, 3)] mix (Nat.zero_le _) rfl rfl ?_
        refine DC2.cons rfl rfl rfl (XS.loadA rfl (ro rfl) (sz rfl) rfl (Nat.le_of_ble_eq_true rfl)) ?_
        refine DC2.cons rfl rfl rfl (XS.call rfl (by kernel_rfl) rfl toPair_c) ?_
        refine DC2.cons rfl rfl rfl (XS.loadA rfl (ro rfl) (sz rfl) rfl (Nat.le_of_ble_eq_true rfl)) ?_
        refine DC2.cons rfl rfl rfl (XS.call rfl (by kernel_rfl) rfl toPair_c) ?_
        refine DC2.cons rfl rfl rfl (XS.move rfl) ?_
        refine DC2.cons rfl rfl rfl (XS.call rfl (by kernel_rfl) rfl (mulPairI_c (by omega))) ?_
        refine DC2.al 3 rfl rfl (ze rfl) rfl rfl ?_
        refine DC2.done rfl (by kernel_rfl) ?_
        refine AO.store rfl rfl rfl rfl (sz rfl) rfl rfl rfl rfl ?_
        refine AO.nil ?_
        refine AW.seq ?_
        refine AW.seq ?_
        refine AW.region ?_
        refine AO.xs rfl rfl rfl (XS.loadA rfl (ro rfl) (sz rfl) rfl (Nat.le_of_ble_eq_true rfl)) ?_
        refine AO.xs rfl rfl rfl (XS.loadA rfl (ro rfl) (sz rfl) rfl (Nat.le_of_ble_eq_true rfl)) ?_
        refine AO.xs rfl rfl rfl (XS.call rfl (by kernel_rfl) rfl eqPair_c) ?_
        refine AO.xs rfl rfl rfl (XS.not rfl) ?_
        refine AO.nil ?_
        refine AW.cond rfl (fun hb4 => ?_) (fun hb4 => ?_)
        · skip
          replace hb4 := eqP_false.1 (notT hb4)
          exact absurd rfl hb4
        · skip
          replace hb4 := eqP_iff.1 (notF hb4)
          refine AW.skip ?_
          refine AW.seq ?_
          refine AW.region ?_
          refine AO.xs rfl rfl rfl (XS.assign rfl) ?_
          refine AO.nil ?_
          refine AW.ret ?_
          exact ⟨_, rfl, rfl⟩

end Go.Proofs.Ytgafdhpagifpcaa.C
