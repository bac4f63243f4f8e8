/-
  OWN WORK, printed by wip/tools/gen.py out of the translation and of the contracts in wip/specs.
-/
import Derived.Test.YtgafdhpagifpcaaC19
import Derived.Test.YtgafdhpagifpcaaN10
namespace Go.Proofs.Ytgafdhpagifpcaa.C
open Go Go.RowKit Go.Proofs.Ytgafdhpagifpcaa.Av Go.Proofs.Ytgafdhpagifpcaa.Ty Go.Proofs.Ytgafdhpagifpcaa.Num
set_option linter.unusedVariables false


theorem lt_of_div0 {a p : Nat} (hp : 0 < p) (h : a / p = 0) : a < p := by
  have h1 := Nat.div_add_mod a p
  have h2 := Nat.mod_lt a hp
  rw [h] at h1; omega
theorem digit_lt {B m V : Nat} (hB : 0 < B) (hV : V < B ^ (m + 2)) : V / B ^ (m + 1) < B := by
  rw [Nat.div_lt_iff_lt_mul (Nat.pow_pos hB), Nat.mul_comm B, ← Nat.pow_succ]; exact hV
theorem right_row {W x U p : Nat} (h : W + x = U + 0 * p) : W = U - x := by omega
theorem rest_ok {U p V : Nat} (hp : 0 < p) (hV : 0 < V) : U / p / V * V * p ≤ U ∧ U - U / p / V * V * p < V * p := by
  have h5 : U / p / V * V * p ≤ U := Nat.le_trans (Nat.mul_le_mul_right _ (Nat.div_mul_le_self _ _)) (Nat.div_mul_le_self _ _)
  have h3 : U < (U / p / V + 1) * V * p := by
    rw [← Nat.div_lt_iff_lt_mul hp, ← Nat.div_lt_iff_lt_mul hV]; exact Nat.lt_succ_self _
  have h4 : (U / p / V + 1) * V * p = U / p / V * V * p + V * p := by rw [Nat.succ_mul, Nat.add_mul]
  generalize U / p / V * V * p = x at *
  exact ⟨h5, by omega⟩
theorem quo_digit {U j V B : Nat} (hB : 0 < B) (hV : 0 < V) (hU : U < V * B ^ (j + 1)) : U / B ^ j / V < B := by
  rw [Nat.div_lt_iff_lt_mul hV, Nat.div_lt_iff_lt_mul (Nat.pow_pos hB), Nat.mul_comm B, Nat.mul_assoc, Nat.mul_comm B, ← Nat.pow_succ]; exact hU

set_option maxRecDepth 100000 in
set_option maxHeartbeats 2000000 in
theorem over_c {a b : Nat} (hb0 : 0 < b) (ha : nl 18446744073709551616 a ≤ 524288) (hb : nl 18446744073709551616 b ≤ 524288) : AC Try.prog 152 [natD a, natD b] (fun d => d = .tu [natD (a / b), natD (a % b)]) := by
  refine AC.intro Try.func152 Try.ntmps152 Try.results152 rfl (by simp) (fun w0 T => ?_)
  refine AW.seq ?_
  refine AW.region ?_
  refine AO.xs rfl rfl rfl (XS.assign rfl) ?_
  refine AO.xs rfl rfl rfl (XS.assign rfl) ?_
  refine AO.nil ?_
  refine AW.seq ?_
  refine AW.seq ?_
  refine AW.region ?_
  refine AO.xs rfl rfl rfl (XS.move rfl) ?_
  refine AO.xs rfl rfl rfl (XS.move rfl) ?_
  refine AO.xs rfl rfl rfl (XS.call rfl (by kernel_rfl) rfl (cmp_c (by omega) (by omega))) ?_
  refine AO.xs rfl rfl rfl (XS.int rfl rfl rfl) ?_
  refine AO.nil ?_
  refine AW.cond rfl (fun hb1 => ?_) (fun hb1 => ?_)
  · skip
    replace hb1 := of_decide_eq_true hb1
    refine AW.seq ?_
    refine AW.region ?_
    refine AO.xs rfl rfl rfl (XS.move rfl) ?_
    refine AO.xs rfl rfl rfl (XS.assign rfl) ?_
    refine AO.xs rfl rfl rfl (XS.assign rfl) ?_
    refine AO.nil ?_
    refine AW.ret ?_
    exact ⟨_, rfl, by rw [Nat.div_eq_of_lt ((cmpN_lt (by decide)).1 hb1), Nat.mod_eq_of_lt ((cmpN_lt (by decide)).1 hb1), natD_zero]; rfl⟩
  · skip
    replace hb1 := of_decide_eq_false hb1
    have hab : b ≤ a := Nat.le_of_not_lt (fun h => hb1 ((cmpN_lt (by decide)).2 h))
    have hKn := nl_mono (b := 18446744073709551616) (by decide) hab
    have hn0 : nl 18446744073709551616 b ≠ 0 := fun e => by rw [nl_eq_zero (by decide)] at e; omega
    refine AW.skip ?_
    refine AW.seq ?_
    refine AW.region ?_
    refine AO.xs rfl rfl rfl (XS.move rfl) ?_
    refine AO.xs rfl rfl rfl (XS.lenL rfl (el rfl)) ?_
    refine AO.xs rfl rfl rfl (XS.assign rfl) ?_
    refine AO.nil ?_
    refine AW.seq ?_
    refine AW.seq ?_
    refine AW.region ?_
    refine AO.xs rfl rfl rfl (XS.move rfl) ?_
    refine AO.xs rfl rfl rfl (XS.int rfl rfl rfl) ?_
    refine AO.nil ?_
    refine AW.cond rfl (fun hb2 => ?_) (fun hb2 => ?_)
    · skip
      replace hb2 := eq_of_beq hb2
      have hn1 : nl 18446744073709551616 b = 1 := by omega
      have hbB : b < 18446744073709551616 := by have h := lt_nl (b := 18446744073709551616) (by decide) b; rw [hn1, Nat.pow_one] at h; exact h
      have hb0v : b / 18446744073709551616 ^ 0 % 18446744073709551616 = b := by rw [Nat.pow_zero, Nat.div_one, Nat.mod_eq_of_lt hbB]
      refine AW.seq ?_
      refine AW.region ?_
      refine AO.xs rfl rfl rfl (XS.move rfl) ?_
      refine AO.xs rfl rfl rfl (XS.lenL rfl (el rfl)) ?_
      refine AO.makeC (18446744073709551616) rfl rfl rfl rfl (ap rfl) (Nat.le_refl _) (by omega) ?_
      refine AO.xs rfl rfl rfl (XS.assign rfl) ?_
      refine AO.xs rfl rfl rfl (XS.assign rfl) ?_
      refine AO.nil ?_
      refine AW.seq ?_
      refine AW.seq ?_
      refine AW.region ?_
      refine AO.xs rfl rfl rfl (XS.move rfl) ?_
      refine AO.xs rfl rfl rfl (XS.lenL rfl (el rfl)) ?_
      refine AO.xs rfl rfl rfl (XS.subI rfl rfl (by omega)) ?_
      refine AO.xs rfl rfl rfl (XS.assign rfl) ?_
      refine AO.nil ?_
      refine AW.block ?_
      refine AW.loop [0, 1, 4, 5, 6, 7] (fun j => [(8, .d (.im (.int .u64 ((a / 18446744073709551616 ^ j % b : Nat) : Int)))), (9, .d (intD (((j : Nat) : Int) - 1)))]) (fun j => [nkD .u64 (fx 18446744073709551616 (nl 18446744073709551616 a) (a / 18446744073709551616 ^ j / b * 18446744073709551616 ^ j))]) (fun j => j ≤ nl 18446744073709551616 a) (fun j => j) (nl 18446744073709551616 a) (Nat.le_refl _) ⟨lk_D rfl (intEq (congrArg Nat.cast (show 0 = a / 18446744073709551616 ^ nl 18446744073709551616 a % b by rw [Nat.div_eq_of_lt (lt_nl (by decide) a), Nat.zero_mod]))), rfl, trivial⟩ ⟨⟨_, rfl, rfl⟩, ⟨_, rfl, rfl⟩, ⟨_, rfl, rfl⟩, ⟨_, rfl, rfl⟩, ⟨_, rfl, rfl⟩, ⟨_, rfl, rfl⟩, trivial⟩ (congrArg (fun z => [nkD .u64 (fx _ _ z)]) (show 0 = a / 18446744073709551616 ^ nl 18446744073709551616 a / b * 18446744073709551616 ^ nl 18446744073709551616 a by rw [Nat.div_eq_of_lt (lt_nl (by decide) a), Nat.zero_div, Nat.zero_mul])) ?_
      intro j hj
      refine AW.seq ?_
      refine AW.seq ?_
      refine AW.region ?_
      refine AO.xs rfl rfl rfl (XS.move rfl) ?_
      refine AO.xs rfl rfl rfl (XS.int rfl rfl rfl) ?_
      refine AO.nil ?_
      refine AW.cond rfl (fun hb3 => ?_) (fun hb3 => ?_)
      · skip
        replace hb3 := of_decide_eq_true hb3
        obtain ⟨i, rfl⟩ : ∃ i, j = i + 1 := ⟨j - 1, by omega⟩
        refine AW.tell 9 rfl (intEq (show ((i + 1 : Nat) : Int) - 1 = ((i : Nat) : Int) by omega)) ?_
        refine AW.skip ?_
        refine AW.seq ?_
        refine AW.block ?_
        refine AW.drawn2 [] [] mix (Nat.zero_le _) rfl rfl ?_
        refine DC2.cons rfl rfl rfl (XS.move rfl) ?_
        refine DC2.cons rfl rfl rfl (XS.move rfl) ?_
        refine DC2.cons rfl rfl rfl (XS.move rfl) ?_
        refine DC2.cons rfl rfl rfl (XS.move rfl) ?_
        refine DC2.cons rfl rfl rfl (XS.move rfl) ?_
        refine DC2.cons rfl rfl rfl (XS.indexL rfl rfl (el rfl) (by omega)) ?_
        refine DC2.cons rfl rfl rfl (XS.loadE rfl (on rfl) rfl) ?_
        refine DC2.cons rfl rfl rfl (XS.move rfl) ?_
        refine DC2.cons rfl rfl rfl (XS.indexL (j := 0) rfl rfl (el rfl) (by omega)) ?_
        refine DC2.cons rfl rfl rfl ((XS.loadE rfl (on rfl) rfl).toI (congrArg Nat.cast hb0v)) ?_
        refine DC2.cons rfl rfl rfl (XS.call rfl (by kernel_rfl) rfl (div64_c (Nat.mod_lt _ hb0) (Nat.mod_lt _ (by decide)) hbB)) ?_
        refine DC2.cons rfl rfl rfl (XS.move rfl) ?_
        refine DC2.cons rfl rfl rfl (XS.extract rfl rfl) ?_
        refine DC2.cons rfl rfl rfl (XS.extract rfl rfl) ?_
        refine DC2.cons rfl rfl rfl (XS.indexR1 rfl rfl (el rfl) (by omega)) ?_
        refine DC2.late 13 rfl (by kernel_rfl) rfl ?_ ?_
        · skip
          refine AY.one 15 (by kernel_rfl) ?_
          refine AO.storeL rfl rfl rfl (sz rfl) rfl (by omega) (short_set (by decide) hb0 (by omega)) rfl ?_
          refine AO.nil ?_
          refine AY.one 16 (by kernel_rfl) ?_
          refine AO.xs rfl rfl rfl (XS.assign rfl) ?_
          refine AO.nil ?_
          refine AY.nil (by kernel_rfl) ?_
          refine AW.region ?_
          refine AO.xs rfl rfl rfl (XS.move rfl) ?_
          refine AO.xs rfl rfl rfl (XS.subI rfl rfl (by omega)) ?_
          refine AO.xs rfl rfl rfl (XS.assign rfl) ?_
          refine AO.nil ?_
          exact ⟨i, (by omega), (by dsimp only; omega), ⟨lk_D rfl (intEq (congrArg Nat.cast short_mod)), rfl, trivial⟩, ⟨⟨_, rfl, rfl⟩, ⟨_, rfl, rfl⟩, ⟨_, rfl, rfl⟩, ⟨_, rfl, rfl⟩, ⟨_, rfl, rfl⟩, ⟨_, rfl, rfl⟩, trivial⟩, rfl⟩
        · skip
          refine AY.two 13 15 (by kernel_rfl) ?_ ?_
          · skip
            refine AO.xs rfl rfl rfl (XS.extract rfl rfl) ?_
            refine AO.nil ?_
            refine AY.one 15 (by kernel_rfl) ?_
            refine AO.storeL rfl rfl rfl (sz rfl) rfl (by omega) (short_set (by decide) hb0 (by omega)) rfl ?_
            refine AO.nil ?_
            refine AY.one 16 (by kernel_rfl) ?_
            refine AO.xs rfl rfl rfl (XS.assign rfl) ?_
            refine AO.nil ?_
            refine AY.nil (by kernel_rfl) ?_
            refine AW.region ?_
            refine AO.xs rfl rfl rfl (XS.move rfl) ?_
            refine AO.xs rfl rfl rfl (XS.subI rfl rfl (by omega)) ?_
            refine AO.xs rfl rfl rfl (XS.assign rfl) ?_
            refine AO.nil ?_
            exact ⟨i, (by omega), (by dsimp only; omega), ⟨lk_D rfl (intEq (congrArg Nat.cast short_mod)), rfl, trivial⟩, ⟨⟨_, rfl, rfl⟩, ⟨_, rfl, rfl⟩, ⟨_, rfl, rfl⟩, ⟨_, rfl, rfl⟩, ⟨_, rfl, rfl⟩, ⟨_, rfl, rfl⟩, trivial⟩, rfl⟩
          · skip
            refine AO.storeL rfl rfl rfl (sz rfl) rfl (by omega) (short_set (by decide) hb0 (by omega)) rfl ?_
            refine AO.nil ?_
            refine AY.one 13 (by kernel_rfl) ?_
            refine AO.xs rfl rfl rfl (XS.extract rfl rfl) ?_
            refine AO.nil ?_
            refine AY.one 16 (by kernel_rfl) ?_
            refine AO.xs rfl rfl rfl (XS.assign rfl) ?_
            refine AO.nil ?_
            refine AY.nil (by kernel_rfl) ?_
            refine AW.region ?_
            refine AO.xs rfl rfl rfl (XS.move rfl) ?_
            refine AO.xs rfl rfl rfl (XS.subI rfl rfl (by omega)) ?_
            refine AO.xs rfl rfl rfl (XS.assign rfl) ?_
            refine AO.nil ?_
            exact ⟨i, (by omega), (by dsimp only; omega), ⟨lk_D rfl (intEq (congrArg Nat.cast short_mod)), rfl, trivial⟩, ⟨⟨_, rfl, rfl⟩, ⟨_, rfl, rfl⟩, ⟨_, rfl, rfl⟩, ⟨_, rfl, rfl⟩, ⟨_, rfl, rfl⟩, ⟨_, rfl, rfl⟩, trivial⟩, rfl⟩
      · skip
        replace hb3 := of_decide_eq_false hb3
        obtain rfl : j = 0 := by omega
        refine AW.setH (congrArg (fun z => [nkD .u64 (fx _ _ z)]) (show a / 18446744073709551616 ^ 0 / b * 18446744073709551616 ^ 0 = a / b by rw [Nat.pow_zero, Nat.div_one, Nat.mul_one])) ?_
        refine AW.tell 8 rfl (intEq (congrArg Nat.cast (show a / 18446744073709551616 ^ 0 % b = a % b % 18446744073709551616 by rw [Nat.pow_zero, Nat.div_one]; exact (Nat.mod_eq_of_lt (Nat.lt_trans (Nat.mod_lt _ hb0) hbB)).symm))) ?_
        refine AW.exit ?_
        refine AW.seq ?_
        refine AW.region ?_
        refine AO.xs rfl rfl rfl (XS.move rfl) ?_
        refine AO.freezeL 57 rfl (Nat.zero_le _) rfl (fx_len _ _ _).symm ?_
        refine AO.xs rfl rfl rfl (XS.call rfl (by kernel_rfl) rfl (trim_c (by omega) (Nat.lt_of_le_of_lt (Nat.div_le_self _ _) (lt_nl (by decide) a)))) ?_
        refine AO.xs rfl rfl rfl (XS.move rfl) ?_
        refine AO.xs rfl rfl rfl (XS.buildSlice (ap rfl) rfl rfl rfl (by decide)) ?_
        refine AO.xs rfl rfl rfl (XS.call rfl (by kernel_rfl) rfl (trim_c (k := 1) (V := a % b) (by omega) (by rw [Nat.pow_one]; exact Nat.lt_trans (Nat.mod_lt _ hb0) hbB))) ?_
        refine AO.xs rfl rfl rfl (XS.assign rfl) ?_
        refine AO.xs rfl rfl rfl (XS.assign rfl) ?_
        refine AO.nil ?_
        refine AW.ret ?_
        exact ⟨_, rfl, rfl⟩
    · skip
      replace hb2 := ne_of_beq_false hb2
      obtain ⟨m, hm⟩ : ∃ m, nl 18446744073709551616 b = m + 2 := ⟨nl 18446744073709551616 b - 2, by omega⟩
      obtain ⟨D, hD⟩ : ∃ D, nl 18446744073709551616 a = m + 2 + D := ⟨nl 18446744073709551616 a - (m + 2), by omega⟩
      obtain ⟨s, hs⟩ : ∃ s, s = 64 - nl 2 (b / 18446744073709551616 ^ (m + 1) % 18446744073709551616) := ⟨_, rfl⟩
      obtain ⟨n1, n2, n3, n4, n5⟩ := norm_all hm hs
      have hbl := pow_le_of_nl (b := 18446744073709551616) (n := b) (by decide) (k := m + 1) (by omega)
      have haK : a < 18446744073709551616 ^ (m + 2 + D) := by rw [← hD]; exact lt_nl (by decide) a
      have hV0 : 0 < b * 2 ^ s := Nat.mul_pos hb0 (Nat.pow_pos (by decide))
      have hvt := digit_lt (by decide) n2
      refine AW.tell 6 rfl (intEq (congrArg Nat.cast hm)) ?_
      refine AW.skip ?_
      refine AW.seq ?_
      refine AW.region ?_
      refine AO.xs rfl rfl rfl (XS.move rfl) ?_
      refine AO.xs rfl rfl rfl (XS.move rfl) ?_
      refine AO.xs rfl rfl rfl (XS.subN (n := 1) rfl rfl (by omega)) ?_
      refine AO.tell 64 rfl (intEq (congrArg Nat.cast (show _ = m + 1 from rfl))) ?_
      refine AO.xs rfl rfl rfl (XS.indexL rfl rfl (el rfl) (by omega)) ?_
      refine AO.xs rfl rfl rfl (XS.loadE rfl (on rfl) rfl) ?_
      refine AO.xs rfl rfl rfl (XS.call rfl (by kernel_rfl) rfl (lz64_c (Nat.mod_lt _ (by decide)))) ?_
      refine AO.tell 67 rfl (intEq (congrArg Nat.cast hs.symm)) ?_
      refine AO.xs rfl rfl rfl (XS.assign rfl) ?_
      refine AO.nil ?_
      refine AW.seq ?_
      refine AW.drawn2 [nkD .u64 (fx 18446744073709551616 (nl 18446744073709551616 a + 1) (a * 2 ^ s)), nkD .u64 (fx 18446744073709551616 (nl 18446744073709551616 b + 1) (b * 2 ^ s))] [(2, 0), (5, 1)] mix (Nat.zero_le _) rfl rfl ?_
      refine DC2.cons rfl rfl rfl (XS.move rfl) ?_
      refine DC2.cons rfl rfl rfl (XS.move rfl) ?_
      refine DC2.cr 0 rfl rfl rfl (by kernel_rfl) rfl (up_c (a := a) (by omega) n1) rfl rfl ?_
      refine DC2.cons rfl rfl rfl (XS.move rfl) ?_
      refine DC2.cons rfl rfl rfl (XS.move rfl) ?_
      refine DC2.cr 1 rfl rfl rfl (by kernel_rfl) rfl (up_c (a := b) (by omega) n1) rfl rfl ?_
      refine DC2.cons rfl rfl rfl (XS.move rfl) ?_
      refine DC2.cons rfl rfl rfl (XS.rowHead rfl rfl (el rfl) ⟨by omega, by omega⟩) ?_
      refine DC2.cons rfl rfl rfl (XS.assign rfl) ?_
      refine DC2.cons rfl rfl rfl (XS.assign rfl) ?_
      refine DC2.any rfl (by kernel_rfl) ?_
      refine AY.nil (by kernel_rfl) ?_
      refine AW.seq ?_
      refine AW.region ?_
      refine AO.xs rfl rfl rfl (XS.move rfl) ?_
      refine AO.xs rfl rfl rfl (XS.lenL rfl (el rfl)) ?_
      refine AO.xs rfl rfl rfl (XS.move rfl) ?_
      refine AO.xs rfl rfl rfl (XS.subN rfl rfl (by omega)) ?_
      refine AO.xs rfl rfl rfl (XS.addN (n := 1) rfl rfl (by omega)) ?_
      refine AO.tell 80 rfl (intEq (congrArg Nat.cast (show _ = D + 1 by omega))) ?_
      refine AO.makeC (18446744073709551616) rfl rfl rfl rfl (ap rfl) (Nat.le_refl _) (by omega) ?_
      refine AO.xs rfl rfl rfl (XS.assign rfl) ?_
      refine AO.nil ?_
      refine AW.seq ?_
      refine AW.seq ?_
      refine AW.region ?_
      refine AO.xs rfl rfl rfl (XS.move rfl) ?_
      refine AO.xs rfl rfl rfl (XS.lenL rfl (el rfl)) ?_
      refine AO.xs rfl rfl rfl (XS.move rfl) ?_
      refine AO.xs rfl rfl rfl (XS.subN rfl rfl (by omega)) ?_
      refine AO.xs rfl rfl rfl (XS.assign rfl) ?_
      refine AO.nil ?_
      refine AW.block ?_
      refine AW.loop (α := Nat × Nat × Nat) [4, 5, 6, 10, 11, 12, 13] (fun ((J, U, Q) : Nat × Nat × Nat) => [(14, .d (intD (((J : Nat) : Int) - 1)))]) (fun ((J, U, Q) : Nat × Nat × Nat) => [nkD .u64 (fx 18446744073709551616 (nl 18446744073709551616 a + 1) U), nkD .u64 (fx 18446744073709551616 (nl 18446744073709551616 b + 1) (b * 2 ^ s)), nkD .u64 (fx 18446744073709551616 (D + 1) Q)]) (fun ((J, U, Q) : Nat × Nat × Nat) => J ≤ D + 1 ∧ DV 18446744073709551616 (a * 2 ^ s) (b * 2 ^ s) J U Q) (fun ((J, U, Q) : Nat × Nat × Nat) => J) ((D + 1, a * 2 ^ s, 0)) ⟨Nat.le_refl _, DV.go (by decide) haK hbl⟩ ⟨lk_D rfl (intEq (by omega)), trivial⟩ ⟨⟨_, rfl, rfl⟩, ⟨_, rfl, rfl⟩, ⟨_, rfl, rfl⟩, ⟨_, rfl, rfl⟩, ⟨_, rfl, rfl⟩, ⟨_, rfl, rfl⟩, ⟨_, rfl, rfl⟩, trivial⟩ rfl ?_
      intro ⟨J, U, Q⟩ ⟨hJ, hV⟩
      refine AW.seq ?_
      refine AW.seq ?_
      refine AW.region ?_
      refine AO.xs rfl rfl rfl (XS.move rfl) ?_
      refine AO.xs rfl rfl rfl (XS.int rfl rfl rfl) ?_
      refine AO.nil ?_
      refine AW.cond rfl (fun hb4 => ?_) (fun hb4 => ?_)
      · skip
        replace hb4 := of_decide_eq_true hb4
        obtain ⟨j, rfl⟩ : ∃ j, J = j + 1 := ⟨J - 1, by omega⟩
        refine AW.tell 14 rfl (intEq (show ((j + 1 : Nat) : Int) - 1 = ((j : Nat) : Int) by omega)) ?_
        have hU := hV.low
        have hUB := U_lt hU n2 (by decide)
        have ht := top_word (by decide) hU n2
        obtain ⟨g1, g2⟩ := knuth_at (b := 18446744073709551616) (n := m) (j := j) (by decide) n4 hU
        refine AW.skip ?_
        refine AW.seq ?_
        refine AW.block ?_
        refine AW.seq ?_
        refine AW.drawn mix ?_
        refine DC.cons rfl rfl rfl (XS.move rfl) ?_
        refine DC.cons rfl rfl rfl (XS.move rfl) ?_
        refine DC.cons rfl rfl rfl (XS.move rfl) ?_
        refine DC.cons rfl rfl rfl ((XS.addN rfl rfl (by omega)).toI (congrArg Nat.cast (show j + (m + 2) = j + m + 2 by omega))) ?_
        refine DC.cons rfl rfl rfl (XS.indexR1 rfl rfl (el rfl) (by omega)) ?_
        refine DC.cons rfl rfl rfl ((XS.loadL rfl (on rfl) rfl (by omega)).toI (congrArg Nat.cast (Nat.mod_eq_of_lt ht))) ?_
        refine DC.cons rfl rfl rfl (XS.move rfl) ?_
        refine DC.cons rfl rfl rfl (XS.move rfl) ?_
        refine DC.cons rfl rfl rfl (XS.move rfl) ?_
        refine DC.cons rfl rfl rfl (XS.addN rfl rfl (by omega)) ?_
        refine DC.cons rfl rfl rfl ((XS.subN (n := 1) rfl rfl (by omega)).toI (congrArg Nat.cast (show j + (m + 2) - 1 = j + m + 1 by omega))) ?_
        refine DC.cons rfl rfl rfl (XS.indexR1 rfl rfl (el rfl) (by omega)) ?_
        refine DC.cons rfl rfl rfl (XS.loadL rfl (on rfl) rfl (by omega)) ?_
        refine DC.cons rfl rfl rfl (XS.move rfl) ?_
        refine DC.cons rfl rfl rfl (XS.move rfl) ?_
        refine DC.cons rfl rfl rfl (XS.move rfl) ?_
        refine DC.cons rfl rfl rfl (XS.addN rfl rfl (by omega)) ?_
        refine DC.cons rfl rfl rfl ((XS.subN (n := 2) rfl rfl (by omega)).toI (congrArg Nat.cast (show j + (m + 2) - 2 = j + m by omega))) ?_
        refine DC.cons rfl rfl rfl (XS.indexR1 rfl rfl (el rfl) (by omega)) ?_
        refine DC.cons rfl rfl rfl (XS.loadL rfl (on rfl) rfl (by omega)) ?_
        refine DC.cons rfl rfl rfl (XS.move rfl) ?_
        refine DC.cons rfl rfl rfl (XS.move rfl) ?_
        refine DC.cons rfl rfl rfl ((XS.subN (n := 1) rfl rfl (by omega)).toI (congrArg Nat.cast (show m + 2 - 1 = m + 1 by omega))) ?_
        refine DC.cons rfl rfl rfl (XS.indexR1 rfl rfl (el rfl) (by omega)) ?_
        refine DC.cons rfl rfl rfl ((XS.loadL rfl (on rfl) rfl (by omega)).toI (congrArg Nat.cast (Nat.mod_eq_of_lt hvt))) ?_
        refine DC.cons rfl rfl rfl (XS.move rfl) ?_
        refine DC.cons rfl rfl rfl (XS.move rfl) ?_
        refine DC.cons rfl rfl rfl ((XS.subN (n := 2) rfl rfl (by omega)).toI (congrArg Nat.cast (show m + 2 - 2 = m by omega))) ?_
        refine DC.cons rfl rfl rfl (XS.indexR1 rfl rfl (el rfl) (by omega)) ?_
        refine DC.cons rfl rfl rfl (XS.loadL rfl (on rfl) rfl (by omega)) ?_
        refine DC.cons rfl rfl rfl (XS.call rfl (by kernel_rfl) rfl (digit_c (top_le (by decide) hU) (Nat.mod_lt _ (by decide)) (Nat.mod_lt _ (by decide)) hvt (Nat.mod_lt _ (by decide)) n3)) ?_
        refine DC.cons rfl rfl rfl (XS.assign rfl) ?_
        refine DC.done (by kernel_rfl) ?_
        refine AO.nil ?_
        refine AW.seq ?_
        obtain ⟨q, hq⟩ : ∃ q, q = dgt 18446744073709551616 (U / 18446744073709551616 ^ (j + m + 2) * 18446744073709551616 + U / 18446744073709551616 ^ (j + m + 1) % 18446744073709551616) (U / 18446744073709551616 ^ (j + m) % 18446744073709551616) (b * 2 ^ s / 18446744073709551616 ^ (m + 1)) (b * 2 ^ s / 18446744073709551616 ^ m % 18446744073709551616) := ⟨_, rfl⟩
        rw [← hq] at g1 g2
        refine AW.tell 15 rfl (intEq (congrArg Nat.cast hq.symm)) ?_
        have hqB : q < 18446744073709551616 := by rw [hq]; exact dgt_less (by decide)
        refine AW.region ?_
        refine AO.xs rfl rfl rfl (XS.assign rfl) ?_
        refine AO.xs rfl rfl rfl (XS.assign rfl) ?_
        refine AO.nil ?_
        refine AW.seq ?_
        refine AW.seq ?_
        refine AW.region ?_
        refine AO.xs rfl rfl rfl (XS.move rfl) ?_
        refine AO.xs rfl rfl rfl (XS.move rfl) ?_
        refine AO.nil ?_
        refine AW.block ?_
        refine AW.loop (α := Nat × Nat × Nat × Nat) [4, 5, 6, 10, 11, 12, 13, 14, 15, 86, 87, 90, 91, 92, 93, 94, 95, 96, 97, 98, 99, 100, 101, 102, 103, 104, 105, 106, 107, 108, 109, 110, 111, 112, 113, 114, 115, 116, 117, 118, 119, 120, 121] (fun ((i, W, c, o) : Nat × Nat × Nat × Nat) => [(16, .d (.im (.int .u64 (o : Int)))), (17, .d (.im (.int .u64 (c : Int)))), (122, .d (intD (i : Int)))]) (fun ((i, W, c, o) : Nat × Nat × Nat × Nat) => [nkD .u64 (fx 18446744073709551616 (nl 18446744073709551616 a + 1) W), nkD .u64 (fx 18446744073709551616 (nl 18446744073709551616 b + 1) (b * 2 ^ s)), nkD .u64 (fx 18446744073709551616 (D + 1) Q)]) (fun ((i, W, c, o) : Nat × Nat × Nat × Nat) => i ≤ m + 2 ∧ MS 18446744073709551616 q (b * 2 ^ s) j U i W (c + o) ∧ o ≤ 1) (fun ((i, W, c, o) : Nat × Nat × Nat × Nat) => m + 2 - i) ((0, U, 0, 0)) ⟨Nat.zero_le _, MS.start (by decide), Nat.zero_le _⟩ ⟨rfl, rfl, rfl, trivial⟩ ⟨⟨_, rfl, rfl⟩, ⟨_, rfl, rfl⟩, ⟨_, rfl, rfl⟩, ⟨_, rfl, rfl⟩, ⟨_, rfl, rfl⟩, ⟨_, rfl, rfl⟩, ⟨_, rfl, rfl⟩, ⟨_, rfl, rfl⟩, ⟨_, rfl, rfl⟩, ⟨_, rfl, rfl⟩, ⟨_, rfl, rfl⟩, ⟨_, rfl, rfl⟩, ⟨_, rfl, rfl⟩, ⟨_, rfl, rfl⟩, ⟨_, rfl, rfl⟩, ⟨_, rfl, rfl⟩, ⟨_, rfl, rfl⟩, ⟨_, rfl, rfl⟩, ⟨_, rfl, rfl⟩, ⟨_, rfl, rfl⟩, ⟨_, rfl, rfl⟩, ⟨_, rfl, rfl⟩, ⟨_, rfl, rfl⟩, ⟨_, rfl, rfl⟩, ⟨_, rfl, rfl⟩, ⟨_, rfl, rfl⟩, ⟨_, rfl, rfl⟩, ⟨_, rfl, rfl⟩, ⟨_, rfl, rfl⟩, ⟨_, rfl, rfl⟩, ⟨_, rfl, rfl⟩, ⟨_, rfl, rfl⟩, ⟨_, rfl, rfl⟩, ⟨_, rfl, rfl⟩, ⟨_, rfl, rfl⟩, ⟨_, rfl, rfl⟩, ⟨_, rfl, rfl⟩, ⟨_, rfl, rfl⟩, ⟨_, rfl, rfl⟩, ⟨_, rfl, rfl⟩, ⟨_, rfl, rfl⟩, ⟨_, rfl, rfl⟩, ⟨_, rfl, rfl⟩, trivial⟩ rfl ?_
        intro ⟨i, W, c, o⟩ ⟨hi, hM, ho⟩
        have hc := hM.owe
        refine AW.seq ?_
        refine AW.region ?_
        refine AO.xs rfl rfl rfl (XS.int rfl rfl rfl) ?_
        refine AO.nil ?_
        refine AW.seq ?_
        refine AW.cond rfl (fun hb5 => ?_) (fun hb5 => ?_)
        · skip
          replace hb5 := of_decide_eq_true hb5
          refine AW.skip ?_
          refine AW.seq ?_
          refine AW.block ?_
          refine AW.seq ?_
          refine AW.region ?_
          refine AO.xs rfl rfl rfl (XS.move rfl) ?_
          refine AO.xs rfl rfl rfl (XS.assign rfl) ?_
          refine AO.nil ?_
          refine AW.seq ?_
          refine AW.region ?_
          refine AO.xs rfl rfl rfl (XS.move rfl) ?_
          refine AO.xs rfl rfl rfl (XS.move rfl) ?_
          refine AO.xs rfl rfl rfl (XS.move rfl) ?_
          refine AO.xs rfl rfl rfl (XS.indexR1 rfl rfl (el rfl) (by omega)) ?_
          refine AO.xs rfl rfl rfl (XS.loadL rfl (on rfl) rfl (by omega)) ?_
          refine AO.xs rfl rfl rfl (XS.call rfl (by kernel_rfl) rfl (mul64_c hqB (Nat.mod_lt _ (by decide)))) ?_
          refine AO.xs rfl rfl rfl (XS.move rfl) ?_
          refine AO.xs rfl rfl rfl (XS.extract rfl rfl) ?_
          refine AO.xs rfl rfl rfl (XS.extract rfl rfl) ?_
          refine AO.xs rfl rfl rfl (XS.assign rfl) ?_
          refine AO.xs rfl rfl rfl (XS.assign rfl) ?_
          refine AO.nil ?_
          refine AW.seq ?_
          refine AW.region ?_
          refine AO.xs rfl rfl rfl (XS.move rfl) ?_
          refine AO.xs rfl rfl rfl (XS.move rfl) ?_
          refine AO.xs rfl rfl rfl (XS.ext rfl rfl (run_add64N ext_add (k := 0) (by decide)) rfl rfl) ?_
          refine AO.xs rfl rfl rfl (XS.move rfl) ?_
          refine AO.xs rfl rfl rfl (XS.extract rfl rfl) ?_
          refine AO.xs rfl rfl rfl (XS.extract rfl rfl) ?_
          refine AO.xs rfl rfl rfl (XS.assign rfl) ?_
          refine AO.xs rfl rfl rfl (XS.assign rfl) ?_
          refine AO.nil ?_
          refine AW.seq ?_
          refine AW.region ?_
          refine AO.xs rfl rfl rfl (XS.move rfl) ?_
          refine AO.xs rfl rfl rfl (XS.move rfl) ?_
          refine AO.xs rfl rfl rfl (XS.addU rfl rfl) ?_
          refine AO.xs rfl rfl rfl (XS.assign rfl) ?_
          refine AO.nil ?_
          refine AW.region ?_
          refine AO.xs rfl rfl rfl (XS.move rfl) ?_
          refine AO.xs rfl rfl rfl (XS.move rfl) ?_
          refine AO.xs rfl rfl rfl (XS.move rfl) ?_
          refine AO.xs rfl rfl rfl ((XS.addN rfl rfl (by omega)).toI (congrArg Nat.cast (show j + i = i + j by omega))) ?_
          refine AO.xs rfl rfl rfl (XS.move rfl) ?_
          refine AO.xs rfl rfl rfl (XS.move rfl) ?_
          refine AO.xs rfl rfl rfl (XS.move rfl) ?_
          refine AO.xs rfl rfl rfl ((XS.addN rfl rfl (by omega)).toI (congrArg Nat.cast (show j + i = i + j by omega))) ?_
          refine AO.xs rfl rfl rfl (XS.indexR1 rfl rfl (el rfl) (by omega)) ?_
          refine AO.xs rfl rfl rfl (XS.loadL rfl (on rfl) rfl (by omega)) ?_
          refine AO.xs rfl rfl rfl (XS.move rfl) ?_
          refine AO.xs rfl rfl rfl (XS.move rfl) ?_
          refine AO.xs rfl rfl rfl (XS.ext rfl rfl (run_sub64N ext_sub ho) rfl rfl) ?_
          refine AO.xs rfl rfl rfl (XS.move rfl) ?_
          refine AO.xs rfl rfl rfl (XS.extract rfl rfl) ?_
          refine AO.xs rfl rfl rfl (XS.extract rfl rfl) ?_
          refine AO.xs rfl rfl rfl (XS.indexR1 rfl rfl (el rfl) (by omega)) ?_
          refine AO.storeL rfl rfl rfl (sz rfl) rfl (by omega) (setd_set (by decide) (by omega) (Nat.mod_lt _ (by decide))) rfl ?_
          refine AO.xs rfl rfl rfl (XS.assign rfl) ?_
          refine AO.nil ?_
          refine AW.region ?_
          refine AO.xs rfl rfl rfl (XS.addN (n := 1) rfl rfl (by omega)) ?_
          refine AO.xs rfl rfl rfl (XS.move rfl) ?_
          refine AO.nil ?_
          have hM2 := MS.next (by decide) hqB hM (Nat.mod_lt _ (by decide)) (ms_word hqB (Nat.mod_lt _ (by decide)) hc ho (Nat.mod_lt _ (by decide)))
          exact ⟨(i + 1, _, _, _), ⟨by omega, hM2, ite_one⟩, (by dsimp only; omega), ⟨rfl, rfl, rfl, trivial⟩, ⟨⟨_, rfl, rfl⟩, ⟨_, rfl, rfl⟩, ⟨_, rfl, rfl⟩, ⟨_, rfl, rfl⟩, ⟨_, rfl, rfl⟩, ⟨_, rfl, rfl⟩, ⟨_, rfl, rfl⟩, ⟨_, rfl, rfl⟩, ⟨_, rfl, rfl⟩, ⟨_, rfl, rfl⟩, ⟨_, rfl, rfl⟩, ⟨_, rfl, rfl⟩, ⟨_, rfl, rfl⟩, ⟨_, rfl, rfl⟩, ⟨_, rfl, rfl⟩, ⟨_, rfl, rfl⟩, ⟨_, rfl, rfl⟩, ⟨_, rfl, rfl⟩, ⟨_, rfl, rfl⟩, ⟨_, rfl, rfl⟩, ⟨_, rfl, rfl⟩, ⟨_, rfl, rfl⟩, ⟨_, rfl, rfl⟩, ⟨_, rfl, rfl⟩, ⟨_, rfl, rfl⟩, ⟨_, rfl, rfl⟩, ⟨_, rfl, rfl⟩, ⟨_, rfl, rfl⟩, ⟨_, rfl, rfl⟩, ⟨_, rfl, rfl⟩, ⟨_, rfl, rfl⟩, ⟨_, rfl, rfl⟩, ⟨_, rfl, rfl⟩, ⟨_, rfl, rfl⟩, ⟨_, rfl, rfl⟩, ⟨_, rfl, rfl⟩, ⟨_, rfl, rfl⟩, ⟨_, rfl, rfl⟩, ⟨_, rfl, rfl⟩, ⟨_, rfl, rfl⟩, ⟨_, rfl, rfl⟩, ⟨_, rfl, rfl⟩, ⟨_, rfl, rfl⟩, trivial⟩, rfl⟩
        · skip
          replace hb5 := of_decide_eq_false hb5
          obtain rfl : i = m + 2 := by omega
          refine AW.exit ?_
          refine AW.seq ?_
          refine AW.region ?_
          refine AO.xs rfl rfl rfl (XS.move rfl) ?_
          refine AO.xs rfl rfl rfl (XS.move rfl) ?_
          refine AO.xs rfl rfl rfl (XS.move rfl) ?_
          refine AO.xs rfl rfl rfl ((XS.addN rfl rfl (by omega)).toI (congrArg Nat.cast (show j + (m + 2) = m + 2 + j by omega))) ?_
          refine AO.xs rfl rfl rfl (XS.move rfl) ?_
          refine AO.xs rfl rfl rfl (XS.move rfl) ?_
          refine AO.xs rfl rfl rfl (XS.move rfl) ?_
          refine AO.xs rfl rfl rfl ((XS.addN rfl rfl (by omega)).toI (congrArg Nat.cast (show j + (m + 2) = m + 2 + j by omega))) ?_
          refine AO.xs rfl rfl rfl (XS.indexR1 rfl rfl (el rfl) (by omega)) ?_
          refine AO.xs rfl rfl rfl ((XS.loadL rfl (on rfl) rfl (by omega)).toI (congrArg Nat.cast (congrArg (fun z => z % 18446744073709551616) hM.up))) ?_
          refine AO.xs rfl rfl rfl (XS.move rfl) ?_
          refine AO.xs rfl rfl rfl (XS.move rfl) ?_
          refine AO.xs rfl rfl rfl (XS.ext rfl rfl (run_sub64N ext_sub ho) rfl rfl) ?_
          refine AO.xs rfl rfl rfl (XS.move rfl) ?_
          refine AO.xs rfl rfl rfl (XS.extract rfl rfl) ?_
          refine AO.xs rfl rfl rfl (XS.extract rfl rfl) ?_
          refine AO.xs rfl rfl rfl (XS.indexR1 rfl rfl (el rfl) (by omega)) ?_
          refine AO.storeL rfl rfl rfl (sz rfl) rfl (by omega) (setd_set (by decide) (by omega) (Nat.mod_lt _ (by decide))) rfl ?_
          refine AO.xs rfl rfl rfl (XS.assign rfl) ?_
          refine AO.nil ?_
          refine AW.cut [4, 5, 6, 10, 11, 12, 13, 14, 86, 87, 90, 91, 92, 93, 94, 95, 96, 97, 98, 99, 100, 101, 102, 103, 104, 105, 106, 107, 108, 109, 110, 111, 112, 113, 114, 115, 116, 117, 118, 119, 120, 121, 122, 123, 161, 162, 163, 164, 165, 166, 167, 168, 169, 170, 171, 172, 173, 174, 175, 176, 177] (fun (_ : Unit) => [(15, .d (.im (.int .u64 ((U / 18446744073709551616 ^ j / (b * 2 ^ s) : Nat) : Int))))]) (fun _ => [nkD .u64 (fx 18446744073709551616 (nl 18446744073709551616 a + 1) (U - U / 18446744073709551616 ^ j / (b * 2 ^ s) * (b * 2 ^ s) * 18446744073709551616 ^ j)), nkD .u64 (fx 18446744073709551616 (nl 18446744073709551616 b + 1) (b * 2 ^ s)), nkD .u64 (fx 18446744073709551616 (D + 1) Q)]) (fun _ => True) ?_ ?_
          · skip
            refine AW.seq ?_
            obtain ⟨l1, l2⟩ := MS.last (by decide) hM n2 (Nat.mod_lt _ (by decide)) (ms_top hc ho (Nat.mod_lt _ (by decide)))
            obtain ⟨W2, hW2⟩ : ∃ W2, W2 = setd 18446744073709551616 W (m + 2 + j) ((U / 18446744073709551616 ^ (m + 2 + j) % 18446744073709551616 + 18446744073709551616 - c - o) % 18446744073709551616) := ⟨_, rfl⟩
            obtain ⟨o2, ho2⟩ : ∃ o2 : Nat, o2 = (if U / 18446744073709551616 ^ (m + 2 + j) % 18446744073709551616 < c + o then 1 else 0) := ⟨_, rfl⟩
            rw [← hW2, ← ho2] at l1
            rw [← hW2, Nat.div_eq_of_lt hUB] at l2
            have ho3 : o2 ≤ 1 := by rw [ho2]; exact ite_one
            have hW2B := lt_of_div0 (Nat.pow_pos (by decide)) l2
            refine AW.setH (congrArg (fun z => [nkD .u64 (fx _ _ z), _, _]) (hW2.symm)) ?_
            refine AW.tell 16 rfl (intEq (congrArg Nat.cast ho2.symm)) ?_
            refine AW.region ?_
            refine AO.xs rfl rfl rfl (XS.move rfl) ?_
            refine AO.xs rfl rfl rfl (XS.int rfl rfl rfl) ?_
            refine AO.nil ?_
            refine AW.cond rfl (fun hb6 => ?_) (fun hb6 => ?_)
            · skip
              replace hb6 := eq_of_beq hb6
              obtain rfl : o2 = 1 := by omega
              obtain ⟨v1, v2, v3, v4⟩ := MS.over (by decide) hV0 g2 hW2B l1
              refine AW.seq ?_
              refine AW.region ?_
              refine AO.xs rfl rfl rfl (XS.move rfl) ?_
              refine AO.xs rfl rfl rfl (XS.subU (n := 1) rfl rfl ⟨by rw [v1]; exact Nat.succ_le_succ (Nat.zero_le _), by omega⟩) ?_
              refine AO.tell 181 rfl (intEq (congrArg Nat.cast (show q - 1 = U / 18446744073709551616 ^ j / (b * 2 ^ s) by rw [v1]; rfl))) ?_
              refine AO.xs rfl rfl rfl (XS.assign rfl) ?_
              refine AO.nil ?_
              refine AW.seq ?_
              refine AW.region ?_
              refine AO.xs rfl rfl rfl (XS.assign rfl) ?_
              refine AO.nil ?_
              refine AW.seq ?_
              refine AW.seq ?_
              refine AW.region ?_
              refine AO.xs rfl rfl rfl (XS.move rfl) ?_
              refine AO.xs rfl rfl rfl (XS.move rfl) ?_
              refine AO.nil ?_
              refine AW.block ?_
              refine AW.loop (α := Nat × Nat × Nat) [4, 5, 6, 10, 11, 12, 13, 14, 15, 16, 86, 87, 90, 91, 92, 93, 94, 95, 96, 97, 98, 99, 100, 101, 102, 103, 104, 105, 106, 107, 108, 109, 110, 111, 112, 113, 114, 115, 116, 117, 118, 119, 120, 121, 122, 123, 161, 162, 163, 164, 165, 166, 167, 168, 169, 170, 171, 172, 173, 174, 175, 176, 177, 178, 179, 180, 181, 182] (fun ((i, W3, c3) : Nat × Nat × Nat) => [(17, .d (.im (.int .u64 (c3 : Int)))), (183, .d (intD (i : Int)))]) (fun ((i, W3, c3) : Nat × Nat × Nat) => [nkD .u64 (fx 18446744073709551616 (nl 18446744073709551616 a + 1) W3), nkD .u64 (fx 18446744073709551616 (nl 18446744073709551616 b + 1) (b * 2 ^ s)), nkD .u64 (fx 18446744073709551616 (D + 1) Q)]) (fun ((i, W3, c3) : Nat × Nat × Nat) => i ≤ m + 2 ∧ AB 18446744073709551616 (b * 2 ^ s) j W2 i W3 c3) (fun ((i, W3, c3) : Nat × Nat × Nat) => m + 2 - i) ((0, W2, 0)) ⟨Nat.zero_le _, AB.start⟩ ⟨rfl, rfl, trivial⟩ ⟨⟨_, rfl, rfl⟩, ⟨_, rfl, rfl⟩, ⟨_, rfl, rfl⟩, ⟨_, rfl, rfl⟩, ⟨_, rfl, rfl⟩, ⟨_, rfl, rfl⟩, ⟨_, rfl, rfl⟩, ⟨_, rfl, rfl⟩, ⟨_, rfl, rfl⟩, ⟨_, rfl, rfl⟩, ⟨_, rfl, rfl⟩, ⟨_, rfl, rfl⟩, ⟨_, rfl, rfl⟩, ⟨_, rfl, rfl⟩, ⟨_, rfl, rfl⟩, ⟨_, rfl, rfl⟩, ⟨_, rfl, rfl⟩, ⟨_, rfl, rfl⟩, ⟨_, rfl, rfl⟩, ⟨_, rfl, rfl⟩, ⟨_, rfl, rfl⟩, ⟨_, rfl, rfl⟩, ⟨_, rfl, rfl⟩, ⟨_, rfl, rfl⟩, ⟨_, rfl, rfl⟩, ⟨_, rfl, rfl⟩, ⟨_, rfl, rfl⟩, ⟨_, rfl, rfl⟩, ⟨_, rfl, rfl⟩, ⟨_, rfl, rfl⟩, ⟨_, rfl, rfl⟩, ⟨_, rfl, rfl⟩, ⟨_, rfl, rfl⟩, ⟨_, rfl, rfl⟩, ⟨_, rfl, rfl⟩, ⟨_, rfl, rfl⟩, ⟨_, rfl, rfl⟩, ⟨_, rfl, rfl⟩, ⟨_, rfl, rfl⟩, ⟨_, rfl, rfl⟩, ⟨_, rfl, rfl⟩, ⟨_, rfl, rfl⟩, ⟨_, rfl, rfl⟩, ⟨_, rfl, rfl⟩, ⟨_, rfl, rfl⟩, ⟨_, rfl, rfl⟩, ⟨_, rfl, rfl⟩, ⟨_, rfl, rfl⟩, ⟨_, rfl, rfl⟩, ⟨_, rfl, rfl⟩, ⟨_, rfl, rfl⟩, ⟨_, rfl, rfl⟩, ⟨_, rfl, rfl⟩, ⟨_, rfl, rfl⟩, ⟨_, rfl, rfl⟩, ⟨_, rfl, rfl⟩, ⟨_, rfl, rfl⟩, ⟨_, rfl, rfl⟩, ⟨_, rfl, rfl⟩, ⟨_, rfl, rfl⟩, ⟨_, rfl, rfl⟩, ⟨_, rfl, rfl⟩, ⟨_, rfl, rfl⟩, ⟨_, rfl, rfl⟩, ⟨_, rfl, rfl⟩, ⟨_, rfl, rfl⟩, ⟨_, rfl, rfl⟩, ⟨_, rfl, rfl⟩, trivial⟩ rfl ?_
              intro ⟨i, W3, c3⟩ ⟨hi, hA⟩
              refine AW.seq ?_
              refine AW.region ?_
              refine AO.xs rfl rfl rfl (XS.int rfl rfl rfl) ?_
              refine AO.nil ?_
              refine AW.seq ?_
              refine AW.cond rfl (fun hb7 => ?_) (fun hb7 => ?_)
              · skip
                replace hb7 := of_decide_eq_true hb7
                refine AW.skip ?_
                refine AW.seq ?_
                refine AW.block ?_
                refine AW.seq ?_
                refine AW.region ?_
                refine AO.xs rfl rfl rfl (XS.move rfl) ?_
                refine AO.xs rfl rfl rfl (XS.assign rfl) ?_
                refine AO.nil ?_
                refine AW.drawn2 [] [] mix (Nat.zero_le _) rfl rfl ?_
                refine DC2.cons rfl rfl rfl (XS.move rfl) ?_
                refine DC2.cons rfl rfl rfl (XS.move rfl) ?_
                refine DC2.cons rfl rfl rfl (XS.move rfl) ?_
                refine DC2.cons rfl rfl rfl ((XS.addN rfl rfl (by omega)).toI (congrArg Nat.cast (show j + i = i + j by omega))) ?_
                refine DC2.cons rfl rfl rfl (XS.move rfl) ?_
                refine DC2.cons rfl rfl rfl (XS.move rfl) ?_
                refine DC2.cons rfl rfl rfl (XS.move rfl) ?_
                refine DC2.cons rfl rfl rfl ((XS.addN rfl rfl (by omega)).toI (congrArg Nat.cast (show j + i = i + j by omega))) ?_
                refine DC2.cons rfl rfl rfl (XS.indexR1 rfl rfl (el rfl) (by omega)) ?_
                refine DC2.cons rfl rfl rfl (XS.loadL rfl (on rfl) rfl (by omega)) ?_
                refine DC2.cons rfl rfl rfl (XS.move rfl) ?_
                refine DC2.cons rfl rfl rfl (XS.move rfl) ?_
                refine DC2.cons rfl rfl rfl (XS.indexR1 rfl rfl (el rfl) (by omega)) ?_
                refine DC2.cons rfl rfl rfl (XS.loadL rfl (on rfl) rfl (by omega)) ?_
                refine DC2.cons rfl rfl rfl (XS.move rfl) ?_
                refine DC2.cons rfl rfl rfl (XS.ext rfl rfl (run_add64N ext_add hA.car) rfl rfl) ?_
                refine DC2.cons rfl rfl rfl (XS.move rfl) ?_
                refine DC2.cons rfl rfl rfl (XS.extract rfl rfl) ?_
                refine DC2.cons rfl rfl rfl (XS.extract rfl rfl) ?_
                refine DC2.cons rfl rfl rfl (XS.indexR1 rfl rfl (el rfl) (by omega)) ?_
                refine DC2.late 18 rfl (by kernel_rfl) rfl ?_ ?_
                · skip
                  refine AY.one 20 (by kernel_rfl) ?_
                  refine AO.storeL rfl rfl rfl (sz rfl) rfl (by omega) (setd_set (by decide) (by omega) (Nat.mod_lt _ (by decide))) rfl ?_
                  refine AO.nil ?_
                  refine AY.one 21 (by kernel_rfl) ?_
                  refine AO.xs rfl rfl rfl (XS.assign rfl) ?_
                  refine AO.nil ?_
                  refine AY.nil (by kernel_rfl) ?_
                  refine AW.region ?_
                  refine AO.xs rfl rfl rfl (XS.addN (n := 1) rfl rfl (by omega)) ?_
                  refine AO.xs rfl rfl rfl (XS.move rfl) ?_
                  refine AO.nil ?_
                  have hA2 := AB.next (by decide) hA (Nat.mod_lt _ (by decide)) (Nat.mod_add_div' _ _)
                  exact ⟨(i + 1, _, _), ⟨by omega, hA2⟩, (by dsimp only; omega), ⟨rfl, rfl, trivial⟩, ⟨⟨_, rfl, rfl⟩, ⟨_, rfl, rfl⟩, ⟨_, rfl, rfl⟩, ⟨_, rfl, rfl⟩, ⟨_, rfl, rfl⟩, ⟨_, rfl, rfl⟩, ⟨_, rfl, rfl⟩, ⟨_, rfl, rfl⟩, ⟨_, rfl, rfl⟩, ⟨_, rfl, rfl⟩, ⟨_, rfl, rfl⟩, ⟨_, rfl, rfl⟩, ⟨_, rfl, rfl⟩, ⟨_, rfl, rfl⟩, ⟨_, rfl, rfl⟩, ⟨_, rfl, rfl⟩, ⟨_, rfl, rfl⟩, ⟨_, rfl, rfl⟩, ⟨_, rfl, rfl⟩, ⟨_, rfl, rfl⟩, ⟨_, rfl, rfl⟩, ⟨_, rfl, rfl⟩, ⟨_, rfl, rfl⟩, ⟨_, rfl, rfl⟩, ⟨_, rfl, rfl⟩, ⟨_, rfl, rfl⟩, ⟨_, rfl, rfl⟩, ⟨_, rfl, rfl⟩, ⟨_, rfl, rfl⟩, ⟨_, rfl, rfl⟩, ⟨_, rfl, rfl⟩, ⟨_, rfl, rfl⟩, ⟨_, rfl, rfl⟩, ⟨_, rfl, rfl⟩, ⟨_, rfl, rfl⟩, ⟨_, rfl, rfl⟩, ⟨_, rfl, rfl⟩, ⟨_, rfl, rfl⟩, ⟨_, rfl, rfl⟩, ⟨_, rfl, rfl⟩, ⟨_, rfl, rfl⟩, ⟨_, rfl, rfl⟩, ⟨_, rfl, rfl⟩, ⟨_, rfl, rfl⟩, ⟨_, rfl, rfl⟩, ⟨_, rfl, rfl⟩, ⟨_, rfl, rfl⟩, ⟨_, rfl, rfl⟩, ⟨_, rfl, rfl⟩, ⟨_, rfl, rfl⟩, ⟨_, rfl, rfl⟩, ⟨_, rfl, rfl⟩, ⟨_, rfl, rfl⟩, ⟨_, rfl, rfl⟩, ⟨_, rfl, rfl⟩, ⟨_, rfl, rfl⟩, ⟨_, rfl, rfl⟩, ⟨_, rfl, rfl⟩, ⟨_, rfl, rfl⟩, ⟨_, rfl, rfl⟩, ⟨_, rfl, rfl⟩, ⟨_, rfl, rfl⟩, ⟨_, rfl, rfl⟩, ⟨_, rfl, rfl⟩, ⟨_, rfl, rfl⟩, ⟨_, rfl, rfl⟩, ⟨_, rfl, rfl⟩, ⟨_, rfl, rfl⟩, trivial⟩, rfl⟩
                · skip
                  refine AY.two 18 20 (by kernel_rfl) ?_ ?_
                  · skip
                    refine AO.xs rfl rfl rfl (XS.extract rfl rfl) ?_
                    refine AO.nil ?_
                    refine AY.one 20 (by kernel_rfl) ?_
                    refine AO.storeL rfl rfl rfl (sz rfl) rfl (by omega) (setd_set (by decide) (by omega) (Nat.mod_lt _ (by decide))) rfl ?_
                    refine AO.nil ?_
                    refine AY.one 21 (by kernel_rfl) ?_
                    refine AO.xs rfl rfl rfl (XS.assign rfl) ?_
                    refine AO.nil ?_
                    refine AY.nil (by kernel_rfl) ?_
                    refine AW.region ?_
                    refine AO.xs rfl rfl rfl (XS.addN (n := 1) rfl rfl (by omega)) ?_
                    refine AO.xs rfl rfl rfl (XS.move rfl) ?_
                    refine AO.nil ?_
                    have hA2 := AB.next (by decide) hA (Nat.mod_lt _ (by decide)) (Nat.mod_add_div' _ _)
                    exact ⟨(i + 1, _, _), ⟨by omega, hA2⟩, (by dsimp only; omega), ⟨rfl, rfl, trivial⟩, ⟨⟨_, rfl, rfl⟩, ⟨_, rfl, rfl⟩, ⟨_, rfl, rfl⟩, ⟨_, rfl, rfl⟩, ⟨_, rfl, rfl⟩, ⟨_, rfl, rfl⟩, ⟨_, rfl, rfl⟩, ⟨_, rfl, rfl⟩, ⟨_, rfl, rfl⟩, ⟨_, rfl, rfl⟩, ⟨_, rfl, rfl⟩, ⟨_, rfl, rfl⟩, ⟨_, rfl, rfl⟩, ⟨_, rfl, rfl⟩, ⟨_, rfl, rfl⟩, ⟨_, rfl, rfl⟩, ⟨_, rfl, rfl⟩, ⟨_, rfl, rfl⟩, ⟨_, rfl, rfl⟩, ⟨_, rfl, rfl⟩, ⟨_, rfl, rfl⟩, ⟨_, rfl, rfl⟩, ⟨_, rfl, rfl⟩, ⟨_, rfl, rfl⟩, ⟨_, rfl, rfl⟩, ⟨_, rfl, rfl⟩, ⟨_, rfl, rfl⟩, ⟨_, rfl, rfl⟩, ⟨_, rfl, rfl⟩, ⟨_, rfl, rfl⟩, ⟨_, rfl, rfl⟩, ⟨_, rfl, rfl⟩, ⟨_, rfl, rfl⟩, ⟨_, rfl, rfl⟩, ⟨_, rfl, rfl⟩, ⟨_, rfl, rfl⟩, ⟨_, rfl, rfl⟩, ⟨_, rfl, rfl⟩, ⟨_, rfl, rfl⟩, ⟨_, rfl, rfl⟩, ⟨_, rfl, rfl⟩, ⟨_, rfl, rfl⟩, ⟨_, rfl, rfl⟩, ⟨_, rfl, rfl⟩, ⟨_, rfl, rfl⟩, ⟨_, rfl, rfl⟩, ⟨_, rfl, rfl⟩, ⟨_, rfl, rfl⟩, ⟨_, rfl, rfl⟩, ⟨_, rfl, rfl⟩, ⟨_, rfl, rfl⟩, ⟨_, rfl, rfl⟩, ⟨_, rfl, rfl⟩, ⟨_, rfl, rfl⟩, ⟨_, rfl, rfl⟩, ⟨_, rfl, rfl⟩, ⟨_, rfl, rfl⟩, ⟨_, rfl, rfl⟩, ⟨_, rfl, rfl⟩, ⟨_, rfl, rfl⟩, ⟨_, rfl, rfl⟩, ⟨_, rfl, rfl⟩, ⟨_, rfl, rfl⟩, ⟨_, rfl, rfl⟩, ⟨_, rfl, rfl⟩, ⟨_, rfl, rfl⟩, ⟨_, rfl, rfl⟩, ⟨_, rfl, rfl⟩, trivial⟩, rfl⟩
                  · skip
                    refine AO.storeL rfl rfl rfl (sz rfl) rfl (by omega) (setd_set (by decide) (by omega) (Nat.mod_lt _ (by decide))) rfl ?_
                    refine AO.nil ?_
                    refine AY.one 18 (by kernel_rfl) ?_
                    refine AO.xs rfl rfl rfl (XS.extract rfl rfl) ?_
                    refine AO.nil ?_
                    refine AY.one 21 (by kernel_rfl) ?_
                    refine AO.xs rfl rfl rfl (XS.assign rfl) ?_
                    refine AO.nil ?_
                    refine AY.nil (by kernel_rfl) ?_
                    refine AW.region ?_
                    refine AO.xs rfl rfl rfl (XS.addN (n := 1) rfl rfl (by omega)) ?_
                    refine AO.xs rfl rfl rfl (XS.move rfl) ?_
                    refine AO.nil ?_
                    have hA2 := AB.next (by decide) hA (Nat.mod_lt _ (by decide)) (Nat.mod_add_div' _ _)
                    exact ⟨(i + 1, _, _), ⟨by omega, hA2⟩, (by dsimp only; omega), ⟨rfl, rfl, trivial⟩, ⟨⟨_, rfl, rfl⟩, ⟨_, rfl, rfl⟩, ⟨_, rfl, rfl⟩, ⟨_, rfl, rfl⟩, ⟨_, rfl, rfl⟩, ⟨_, rfl, rfl⟩, ⟨_, rfl, rfl⟩, ⟨_, rfl, rfl⟩, ⟨_, rfl, rfl⟩, ⟨_, rfl, rfl⟩, ⟨_, rfl, rfl⟩, ⟨_, rfl, rfl⟩, ⟨_, rfl, rfl⟩, ⟨_, rfl, rfl⟩, ⟨_, rfl, rfl⟩, ⟨_, rfl, rfl⟩, ⟨_, rfl, rfl⟩, ⟨_, rfl, rfl⟩, ⟨_, rfl, rfl⟩, ⟨_, rfl, rfl⟩, ⟨_, rfl, rfl⟩, ⟨_, rfl, rfl⟩, ⟨_, rfl, rfl⟩, ⟨_, rfl, rfl⟩, ⟨_, rfl, rfl⟩, ⟨_, rfl, rfl⟩, ⟨_, rfl, rfl⟩, ⟨_, rfl, rfl⟩, ⟨_, rfl, rfl⟩, ⟨_, rfl, rfl⟩, ⟨_, rfl, rfl⟩, ⟨_, rfl, rfl⟩, ⟨_, rfl, rfl⟩, ⟨_, rfl, rfl⟩, ⟨_, rfl, rfl⟩, ⟨_, rfl, rfl⟩, ⟨_, rfl, rfl⟩, ⟨_, rfl, rfl⟩, ⟨_, rfl, rfl⟩, ⟨_, rfl, rfl⟩, ⟨_, rfl, rfl⟩, ⟨_, rfl, rfl⟩, ⟨_, rfl, rfl⟩, ⟨_, rfl, rfl⟩, ⟨_, rfl, rfl⟩, ⟨_, rfl, rfl⟩, ⟨_, rfl, rfl⟩, ⟨_, rfl, rfl⟩, ⟨_, rfl, rfl⟩, ⟨_, rfl, rfl⟩, ⟨_, rfl, rfl⟩, ⟨_, rfl, rfl⟩, ⟨_, rfl, rfl⟩, ⟨_, rfl, rfl⟩, ⟨_, rfl, rfl⟩, ⟨_, rfl, rfl⟩, ⟨_, rfl, rfl⟩, ⟨_, rfl, rfl⟩, ⟨_, rfl, rfl⟩, ⟨_, rfl, rfl⟩, ⟨_, rfl, rfl⟩, ⟨_, rfl, rfl⟩, ⟨_, rfl, rfl⟩, ⟨_, rfl, rfl⟩, ⟨_, rfl, rfl⟩, ⟨_, rfl, rfl⟩, ⟨_, rfl, rfl⟩, ⟨_, rfl, rfl⟩, trivial⟩, rfl⟩
              · skip
                replace hb7 := of_decide_eq_false hb7
                obtain rfl : i = m + 2 := by omega
                refine AW.exit ?_
                refine AW.region ?_
                refine AO.xs rfl rfl rfl (XS.move rfl) ?_
                refine AO.xs rfl rfl rfl (XS.move rfl) ?_
                refine AO.xs rfl rfl rfl (XS.move rfl) ?_
                refine AO.xs rfl rfl rfl ((XS.addN rfl rfl (by omega)).toI (congrArg Nat.cast (show j + (m + 2) = m + 2 + j by omega))) ?_
                refine AO.xs rfl rfl rfl (XS.indexR1 rfl rfl (el rfl) (by omega)) ?_
                refine AO.xs rfl rfl rfl (XS.loadL rfl (on rfl) rfl (by omega)) ?_
                refine AO.xs rfl rfl rfl (XS.move rfl) ?_
                refine AO.xs rfl rfl rfl (XS.addU rfl rfl) ?_
                refine AO.xs rfl rfl rfl (XS.indexR1 rfl rfl (el rfl) (by omega)) ?_
                refine AO.storeL rfl rfl rfl (sz rfl) rfl (by omega) (setd_set (by decide) (by omega) (Nat.mod_lt _ (by decide))) rfl ?_
                refine AO.nil ?_
                exact ⟨(), trivial, ⟨rfl, trivial⟩, ⟨⟨_, rfl, rfl⟩, ⟨_, rfl, rfl⟩, ⟨_, rfl, rfl⟩, ⟨_, rfl, rfl⟩, ⟨_, rfl, rfl⟩, ⟨_, rfl, rfl⟩, ⟨_, rfl, rfl⟩, ⟨_, rfl, rfl⟩, ⟨_, rfl, rfl⟩, ⟨_, rfl, rfl⟩, ⟨_, rfl, rfl⟩, ⟨_, rfl, rfl⟩, ⟨_, rfl, rfl⟩, ⟨_, rfl, rfl⟩, ⟨_, rfl, rfl⟩, ⟨_, rfl, rfl⟩, ⟨_, rfl, rfl⟩, ⟨_, rfl, rfl⟩, ⟨_, rfl, rfl⟩, ⟨_, rfl, rfl⟩, ⟨_, rfl, rfl⟩, ⟨_, rfl, rfl⟩, ⟨_, rfl, rfl⟩, ⟨_, rfl, rfl⟩, ⟨_, rfl, rfl⟩, ⟨_, rfl, rfl⟩, ⟨_, rfl, rfl⟩, ⟨_, rfl, rfl⟩, ⟨_, rfl, rfl⟩, ⟨_, rfl, rfl⟩, ⟨_, rfl, rfl⟩, ⟨_, rfl, rfl⟩, ⟨_, rfl, rfl⟩, ⟨_, rfl, rfl⟩, ⟨_, rfl, rfl⟩, ⟨_, rfl, rfl⟩, ⟨_, rfl, rfl⟩, ⟨_, rfl, rfl⟩, ⟨_, rfl, rfl⟩, ⟨_, rfl, rfl⟩, ⟨_, rfl, rfl⟩, ⟨_, rfl, rfl⟩, ⟨_, rfl, rfl⟩, ⟨_, rfl, rfl⟩, ⟨_, rfl, rfl⟩, ⟨_, rfl, rfl⟩, ⟨_, rfl, rfl⟩, ⟨_, rfl, rfl⟩, ⟨_, rfl, rfl⟩, ⟨_, rfl, rfl⟩, ⟨_, rfl, rfl⟩, ⟨_, rfl, rfl⟩, ⟨_, rfl, rfl⟩, ⟨_, rfl, rfl⟩, ⟨_, rfl, rfl⟩, ⟨_, rfl, rfl⟩, ⟨_, rfl, rfl⟩, ⟨_, rfl, rfl⟩, ⟨_, rfl, rfl⟩, ⟨_, rfl, rfl⟩, ⟨_, rfl, rfl⟩, trivial⟩, (congrArg (fun z => [nkD .u64 (fx _ _ z), _, _]) (AB.last (by decide) hA n2 v4 hW2B v2 rfl))⟩
            · skip
              replace hb6 := ne_of_beq_false hb6
              obtain rfl : o2 = 0 := by omega
              obtain ⟨v1, v2⟩ := MS.right (by decide) hV0 g1 l1
              refine AW.skip ?_
              exact ⟨(), trivial, ⟨lk_D rfl (intEq (congrArg Nat.cast v1)), trivial⟩, ⟨⟨_, rfl, rfl⟩, ⟨_, rfl, rfl⟩, ⟨_, rfl, rfl⟩, ⟨_, rfl, rfl⟩, ⟨_, rfl, rfl⟩, ⟨_, rfl, rfl⟩, ⟨_, rfl, rfl⟩, ⟨_, rfl, rfl⟩, ⟨_, rfl, rfl⟩, ⟨_, rfl, rfl⟩, ⟨_, rfl, rfl⟩, ⟨_, rfl, rfl⟩, ⟨_, rfl, rfl⟩, ⟨_, rfl, rfl⟩, ⟨_, rfl, rfl⟩, ⟨_, rfl, rfl⟩, ⟨_, rfl, rfl⟩, ⟨_, rfl, rfl⟩, ⟨_, rfl, rfl⟩, ⟨_, rfl, rfl⟩, ⟨_, rfl, rfl⟩, ⟨_, rfl, rfl⟩, ⟨_, rfl, rfl⟩, ⟨_, rfl, rfl⟩, ⟨_, rfl, rfl⟩, ⟨_, rfl, rfl⟩, ⟨_, rfl, rfl⟩, ⟨_, rfl, rfl⟩, ⟨_, rfl, rfl⟩, ⟨_, rfl, rfl⟩, ⟨_, rfl, rfl⟩, ⟨_, rfl, rfl⟩, ⟨_, rfl, rfl⟩, ⟨_, rfl, rfl⟩, ⟨_, rfl, rfl⟩, ⟨_, rfl, rfl⟩, ⟨_, rfl, rfl⟩, ⟨_, rfl, rfl⟩, ⟨_, rfl, rfl⟩, ⟨_, rfl, rfl⟩, ⟨_, rfl, rfl⟩, ⟨_, rfl, rfl⟩, ⟨_, rfl, rfl⟩, ⟨_, rfl, rfl⟩, ⟨_, rfl, rfl⟩, ⟨_, rfl, rfl⟩, ⟨_, rfl, rfl⟩, ⟨_, rfl, rfl⟩, ⟨_, rfl, rfl⟩, ⟨_, rfl, rfl⟩, ⟨_, rfl, rfl⟩, ⟨_, rfl, rfl⟩, ⟨_, rfl, rfl⟩, ⟨_, rfl, rfl⟩, ⟨_, rfl, rfl⟩, ⟨_, rfl, rfl⟩, ⟨_, rfl, rfl⟩, ⟨_, rfl, rfl⟩, ⟨_, rfl, rfl⟩, ⟨_, rfl, rfl⟩, ⟨_, rfl, rfl⟩, trivial⟩, (congrArg (fun z => [nkD .u64 (fx _ _ z), _, _]) (right_row (v1 ▸ l1)))⟩
          · skip
            intro _ _
            obtain ⟨z1, z2⟩ := rest_ok (U := U) (p := 18446744073709551616 ^ j) (V := b * 2 ^ s) (Nat.pow_pos (by decide)) hV0
            obtain ⟨y1, y2⟩ := DV.next (by decide) hV rfl (Nat.sub_add_cancel z1) z2
            have hqq := quo_digit (by decide) hV0 hU
            refine AW.region ?_
            refine AO.xs rfl rfl rfl (XS.move rfl) ?_
            refine AO.xs rfl rfl rfl (XS.move rfl) ?_
            refine AO.xs rfl rfl rfl (XS.move rfl) ?_
            refine AO.xs rfl rfl rfl (XS.indexR1 rfl rfl (el rfl) (by omega)) ?_
            refine AO.storeL rfl rfl rfl (sz rfl) rfl (by omega) (fx_put (by decide) (by omega) hqq y2) rfl ?_
            refine AO.nil ?_
            refine AW.region ?_
            refine AO.xs rfl rfl rfl (XS.move rfl) ?_
            refine AO.xs rfl rfl rfl (XS.subI rfl rfl (by omega)) ?_
            refine AO.xs rfl rfl rfl (XS.assign rfl) ?_
            refine AO.nil ?_
            exact ⟨(j, _, _), ⟨by omega, y1⟩, (by dsimp only; omega), ⟨rfl, trivial⟩, ⟨⟨_, rfl, rfl⟩, ⟨_, rfl, rfl⟩, ⟨_, rfl, rfl⟩, ⟨_, rfl, rfl⟩, ⟨_, rfl, rfl⟩, ⟨_, rfl, rfl⟩, ⟨_, rfl, rfl⟩, trivial⟩, rfl⟩
      · skip
        replace hb4 := of_decide_eq_false hb4
        obtain rfl : J = 0 := by omega
        obtain ⟨e1, e2⟩ := DV.done hb0 hV
        subst e1
        have hU0 : U < 18446744073709551616 ^ (m + 2) := by have h := hV.low; rw [Nat.pow_zero, Nat.mul_one] at h; exact Nat.lt_trans h n2
        refine AW.exit ?_
        refine AW.seq ?_
        refine AW.freezeL 13 rfl (Nat.zero_le _) rfl (fx_len _ _ _).symm ?_
        refine AW.freezeL 11 rfl (Nat.zero_le _) rfl (fx_len _ _ _).symm ?_
        refine AW.drawn mix ?_
        refine DC.cons rfl rfl rfl (XS.move rfl) ?_
        refine DC.cons rfl rfl rfl (XS.call rfl (by kernel_rfl) rfl (trim_c (by omega) (quo_lt (by decide) haK hbl))) ?_
        refine DC.cons rfl rfl rfl (XS.move rfl) ?_
        refine DC.cons rfl rfl rfl (XS.move rfl) ?_
        refine DC.cons rfl rfl rfl (XS.headL rfl rfl (el rfl) (by omega)) ?_
        refine DC.cons rfl rfl rfl (XS.call rfl (by kernel_rfl) rfl (trim_c (by omega) hU0)) ?_
        refine DC.cons rfl rfl rfl (XS.move rfl) ?_
        refine DC.cons rfl rfl rfl (XS.call rfl (by kernel_rfl) rfl (downN_c (Nat.le_trans ((nl_le (by decide)).2 hU0) (by omega)) n1)) ?_
        refine DC.cons rfl rfl rfl (XS.assign rfl) ?_
        refine DC.cons rfl rfl rfl (XS.assign rfl) ?_
        refine DC.done (by kernel_rfl) ?_
        refine AO.nil ?_
        refine AW.ret ?_
        exact ⟨_, rfl, by rw [← e2]; rfl⟩

end Go.Proofs.Ytgafdhpagifpcaa.C
