/-
  OWN WORK, printed by wip/tools/gen.py out of the translation and of the contracts in wip/specs.
-/
import Derived.Test.YtgafdhpagifpcaaC21
namespace Go.Proofs.Ytgafdhpagifpcaa.C
open Go Go.RowKit Go.Proofs.Ytgafdhpagifpcaa.Av Go.Proofs.Ytgafdhpagifpcaa.Ty Go.Proofs.Ytgafdhpagifpcaa.Num
set_option linter.unusedVariables false


theorem s_next {t s : Nat} (ht : 0 < t) (h : t * 2 ^ s < 8388608) : s + 1 ≤ 23 ∧ t * 2 ^ (s + 1) < 16777216 := by
  have e : t * 2 ^ (s + 1) = t * 2 ^ s + t * 2 ^ s := by rw [Nat.pow_succ, ← Nat.mul_assoc, Nat.mul_two]
  refine ⟨?_, by omega⟩
  rcases Nat.lt_or_ge s 23 with h1 | h1
  · exact h1
  · have h2 := Nat.pow_le_pow_right (show 0 < 2 by decide) h1
    have h3 := Nat.mul_le_mul ht h2
    exact absurd (Nat.lt_of_le_of_lt h3 h) (by decide)
theorem bound1 {d m : Nat} (hd : d < 16777216) (hm : m ≤ 16777215 * 16777215) : -9223372036854775808 ≤ (d : Int) - (m : Int) ∧ (d : Int) - (m : Int) ≤ 9223372036854775807 := by omega
theorem bound2 {d m C : Nat} (hd : d < 16777216) (hm : m ≤ 16777215 * 16777215) (hC : C < 16777216) : -9223372036854775808 ≤ (d : Int) - (m : Int) - (C : Int) ∧ (d : Int) - (m : Int) - (C : Int) ≤ 9223372036854775807 := by omega
theorem bound3 {d m C : Nat} (hd : d < 16777216) (hm : m ≤ 16777215 * 16777215) (hC : C < 16777216) : -9223372036854775808 ≤ -(((d : Int) - (m : Int) - (C : Int)) / 16777216) ∧ -(((d : Int) - (m : Int) - (C : Int)) / 16777216) ≤ 9223372036854775807 := by omega
theorem bound4 {d C : Nat} (hd : d < 16777216) (hC : C < 16777216) : -9223372036854775808 ≤ (d : Int) - (C : Int) ∧ (d : Int) - (C : Int) ≤ 9223372036854775807 := by omega
theorem shl24 {y s : Nat} (hy : y < 16777216) : y * 2 ^ (24 - s) < 9223372036854775808 := by
  have h : 2 ^ (24 - s) ≤ 2 ^ 24 := Nat.pow_le_pow_right (by decide) (by omega)
  have := Nat.mul_le_mul (Nat.le_of_lt hy) h
  omega
theorem quo_lim {a b i : Nat} : a / 16777216 ^ i % 16777216 < 9223372036854775808 := Nat.lt_trans (Nat.mod_lt _ (by decide)) (by decide)
theorem div_small {x v : Nat} (hx : x < 16777216) : x / v < 9223372036854775808 := Nat.lt_of_le_of_lt (Nat.div_le_self _ _) (Nat.lt_trans hx (by decide))
theorem l24 {x : Nat} (h : x < 16777216) : x * 2 ^ 24 < 9223372036854775808 := by
  show x * 16777216 < 9223372036854775808
  omega
theorem w24 {x : Nat} (h : x < 16777216) : x < 9223372036854775808 := Nat.lt_trans h (by decide)
theorem big24 {q : Nat} (h : (q : Int) ≥ 16777216) : 16777216 ≤ q := by omega
theorem short_bound {a b d : Nat} (hb : b < 16777216) (hb0 : 0 < b) (hd : d < 16777216) : a % b * 16777216 + d < 281474976710656 := by
  have := Nat.mod_lt a hb0
  omega

set_option maxRecDepth 100000 in
set_option maxHeartbeats 4000000 in
theorem l02Div_c {a b : Nat} (hb0 : 0 < b) (ha : nl 16777216 a ≤ 524288) (hb : nl 16777216 b ≤ 524288) : AC Try.prog 97 [limD a, limD b] (fun d => d = .tu [limD (a / b), limD (a % b)]) := by
  refine AC.intro Try.func97 Try.ntmps97 Try.results97 rfl (by simp) (fun w0 T => ?_)
  refine AW.seq ?_
  refine AW.region ?_
  refine AO.xs rfl rfl rfl (XS.assign rfl) ?_
  refine AO.xs rfl rfl rfl (XS.assign rfl) ?_
  refine AO.nil ?_
  refine AW.seq ?_
  refine AW.seq ?_
  refine AW.region ?_
  refine AO.xs rfl rfl rfl (XS.move rfl) ?_
  refine AO.xs rfl rfl rfl (XS.move rfl) ?_
  refine AO.xs rfl rfl rfl (XS.call rfl (by kernel_rfl) rfl (l02Cmp_c (by omega) (by omega))) ?_
  refine AO.xs rfl rfl rfl (XS.int rfl rfl rfl) ?_
  refine AO.nil ?_
  refine AW.cond rfl (fun hb1 => ?_) (fun hb1 => ?_)
  · skip
    replace hb1 := of_decide_eq_true hb1
    refine AW.seq ?_
    refine AW.region ?_
    refine AO.lit0 rfl rfl (ap rfl) ?_
    refine AO.lit0 rfl rfl (ap rfl) ?_
    refine AO.xs rfl rfl rfl (XS.move rfl) ?_
    refine AO.cloneL rfl rfl rfl rfl (fx_len _ _ _) (ap rfl) (el rfl) (Nat.zero_le _) rfl (by omega) (by simp only [maxLen]; omega) rfl ?_
    refine AO.xs rfl rfl rfl (XS.assign rfl) ?_
    refine AO.xs rfl rfl rfl (XS.assign rfl) ?_
    refine AO.freezeL (k := .i64) (ns := []) 4 rfl (Nat.zero_le _) rfl rfl ?_
    refine AO.freezeL 5 rfl (Nat.zero_le _) rfl (fx_len _ _ _).symm ?_
    refine AO.nil ?_
    refine AW.ret ?_
    exact ⟨_, rfl, by rw [Nat.div_eq_of_lt (sgN_lt.1 hb1), Nat.mod_eq_of_lt (sgN_lt.1 hb1), limD_zero]; rfl⟩
  · skip
    replace hb1 := of_decide_eq_false hb1
    have hab : b ≤ a := Nat.le_of_not_lt (fun h => hb1 (sgN_lt.2 h))
    have hKn := nl_mono (b := 16777216) (by decide) hab
    have hn0 : nl 16777216 b ≠ 0 := fun e => by rw [nl_eq_zero (by decide)] at e; omega
    refine AW.skip ?_
    refine AW.seq ?_
    refine AW.region ?_
    refine AO.xs rfl rfl rfl (XS.move rfl) ?_
    refine AO.xs rfl rfl rfl (XS.lenL rfl (el rfl)) ?_
    refine AO.xs rfl rfl rfl (XS.assign rfl) ?_
    refine AO.nil ?_
    refine AW.seq ?_
    refine AW.seq ?_
    refine AW.region ?_
    refine AO.xs rfl rfl rfl (XS.move rfl) ?_
    refine AO.xs rfl rfl rfl (XS.int rfl rfl rfl) ?_
    refine AO.nil ?_
    refine AW.cond rfl (fun hb2 => ?_) (fun hb2 => ?_)
    · skip
      replace hb2 := eq_of_beq hb2
      have hn1 : nl 16777216 b = 1 := by omega
      have hbB : b < 16777216 := by have h := lt_nl (b := 16777216) (by decide) b; rw [hn1, Nat.pow_one] at h; exact h
      have hb0v : b / 16777216 ^ 0 % 16777216 = b := by rw [Nat.pow_zero, Nat.div_one, Nat.mod_eq_of_lt hbB]
      refine AW.seq ?_
      refine AW.region ?_
      refine AO.xs rfl rfl rfl (XS.move rfl) ?_
      refine AO.xs rfl rfl rfl (XS.lenL rfl (el rfl)) ?_
      refine AO.makeC (16777216) rfl rfl rfl rfl (ap rfl) (Nat.le_refl _) (by omega) ?_
      refine AO.xs rfl rfl rfl (XS.assign rfl) ?_
      refine AO.nil ?_
      refine AW.seq ?_
      refine AW.region ?_
      refine AO.xs rfl rfl rfl (XS.assign rfl) ?_
      refine AO.nil ?_
      refine AW.seq ?_
      refine AW.seq ?_
      refine AW.region ?_
      refine AO.xs rfl rfl rfl (XS.move rfl) ?_
      refine AO.xs rfl rfl rfl (XS.lenL rfl (el rfl)) ?_
      refine AO.xs rfl rfl rfl (XS.subI rfl rfl (by omega)) ?_
      refine AO.xs rfl rfl rfl (XS.assign rfl) ?_
      refine AO.nil ?_
      refine AW.block ?_
      refine AW.loop [0, 1, 4, 5, 6, 7] (fun j => [(8, .d (intD ((a / 16777216 ^ j % b : Nat) : Int))), (9, .d (intD (((j : Nat) : Int) - 1)))]) (fun j => [nkD .i64 (fx 16777216 (nl 16777216 a) (a / 16777216 ^ j / b * 16777216 ^ j))]) (fun j => j ≤ nl 16777216 a) (fun j => j) (nl 16777216 a) (Nat.le_refl _) ⟨lk_D rfl (intEq (congrArg Nat.cast (show 0 = a / 16777216 ^ nl 16777216 a % b by rw [Nat.div_eq_of_lt (lt_nl (by decide) a), Nat.zero_mod]))), rfl, trivial⟩ ⟨⟨_, rfl, rfl⟩, ⟨_, rfl, rfl⟩, ⟨_, rfl, rfl⟩, ⟨_, rfl, rfl⟩, ⟨_, rfl, rfl⟩, ⟨_, rfl, rfl⟩, trivial⟩ (congrArg (fun z => [nkD .i64 (fx _ _ z)]) (show 0 = a / 16777216 ^ nl 16777216 a / b * 16777216 ^ nl 16777216 a by rw [Nat.div_eq_of_lt (lt_nl (by decide) a), Nat.zero_div, Nat.zero_mul])) ?_
      intro j hj
      refine AW.seq ?_
      refine AW.seq ?_
      refine AW.region ?_
      refine AO.xs rfl rfl rfl (XS.move rfl) ?_
      refine AO.xs rfl rfl rfl (XS.int rfl rfl rfl) ?_
      refine AO.nil ?_
      refine AW.cond rfl (fun hb3 => ?_) (fun hb3 => ?_)
      · skip
        replace hb3 := of_decide_eq_true hb3
        obtain ⟨i, rfl⟩ : ∃ i, j = i + 1 := ⟨j - 1, by omega⟩
        refine AW.tell 9 rfl (intEq (show ((i + 1 : Nat) : Int) - 1 = ((i : Nat) : Int) by omega)) ?_
        have hsb := short_bound (a := a / 16777216 ^ (i + 1)) (d := a / 16777216 ^ i % 16777216) hbB hb0 (Nat.mod_lt _ (by decide))
        have hrm := Nat.mod_lt (a / 16777216 ^ (i + 1)) hb0
        refine AW.skip ?_
        refine AW.seq ?_
        refine AW.block ?_
        refine AW.seq ?_
        refine AW.region ?_
        refine AO.xs rfl rfl rfl (XS.move rfl) ?_
        refine AO.xs rfl rfl rfl (XS.shlI (n := 24) rfl rfl (by decide) (l24 (Nat.lt_trans hrm hbB))) ?_
        refine AO.xs rfl rfl rfl (XS.move rfl) ?_
        refine AO.xs rfl rfl rfl (XS.move rfl) ?_
        refine AO.xs rfl rfl rfl (XS.indexL rfl rfl (el rfl) (by omega)) ?_
        refine AO.xs rfl rfl rfl (XS.loadE rfl (on rfl) rfl) ?_
        refine AO.xs rfl rfl rfl (XS.orI rfl rfl (l24 (Nat.lt_trans hrm hbB)) (w24 (Nat.mod_lt _ (by decide)))) ?_
        refine AO.tell 57 rfl (intEq (congrArg Nat.cast (show _ = a / 16777216 ^ (i + 1) % b * 16777216 + a / 16777216 ^ i % 16777216 from or_add (k := 24) (Nat.mod_lt _ (by decide))))) ?_
        refine AO.xs rfl rfl rfl (XS.assign rfl) ?_
        refine AO.nil ?_
        refine AW.seq ?_
        refine AW.region ?_
        refine AO.xs rfl rfl rfl (XS.move rfl) ?_
        refine AO.xs rfl rfl rfl (XS.move rfl) ?_
        refine AO.xs rfl rfl rfl (XS.move rfl) ?_
        refine AO.xs rfl rfl rfl (XS.move rfl) ?_
        refine AO.xs rfl rfl rfl (XS.indexL (j := 0) rfl rfl (el rfl) (by omega)) ?_
        refine AO.xs rfl rfl rfl ((XS.loadE rfl (on rfl) rfl).toI (congrArg Nat.cast hb0v)) ?_
        refine AO.xs rfl rfl rfl (XS.quoI rfl rfl (by omega) (by omega)) ?_
        refine AO.xs rfl rfl rfl (XS.indexR1 rfl rfl (el rfl) (by omega)) ?_
        refine AO.storeL rfl rfl rfl (sz rfl) rfl (by omega) (short_set (by decide) hb0 (by omega)) rfl ?_
        refine AO.nil ?_
        refine AW.region ?_
        refine AO.xs rfl rfl rfl (XS.move rfl) ?_
        refine AO.xs rfl rfl rfl (XS.move rfl) ?_
        refine AO.xs rfl rfl rfl (XS.indexL (j := 0) rfl rfl (el rfl) (by omega)) ?_
        refine AO.xs rfl rfl rfl ((XS.loadE rfl (on rfl) rfl).toI (congrArg Nat.cast hb0v)) ?_
        refine AO.xs rfl rfl rfl (XS.remI rfl rfl (by omega)) ?_
        refine AO.xs rfl rfl rfl (XS.assign rfl) ?_
        refine AO.nil ?_
        refine AW.region ?_
        refine AO.xs rfl rfl rfl (XS.move rfl) ?_
        refine AO.xs rfl rfl rfl (XS.subI rfl rfl (by omega)) ?_
        refine AO.xs rfl rfl rfl (XS.assign rfl) ?_
        refine AO.nil ?_
        exact ⟨i, (by omega), (by dsimp only; omega), ⟨lk_D rfl (intEq (congrArg Nat.cast short_mod)), rfl, trivial⟩, ⟨⟨_, rfl, rfl⟩, ⟨_, rfl, rfl⟩, ⟨_, rfl, rfl⟩, ⟨_, rfl, rfl⟩, ⟨_, rfl, rfl⟩, ⟨_, rfl, rfl⟩, trivial⟩, rfl⟩
      · skip
        replace hb3 := of_decide_eq_false hb3
        obtain rfl : j = 0 := by omega
        refine AW.setH (congrArg (fun z => [nkD .i64 (fx _ _ z)]) (show a / 16777216 ^ 0 / b * 16777216 ^ 0 = a / b by rw [Nat.pow_zero, Nat.div_one, Nat.mul_one])) ?_
        refine AW.tell 8 rfl (intEq (congrArg Nat.cast (show a / 16777216 ^ 0 % b = a % b % 16777216 by rw [Nat.pow_zero, Nat.div_one]; exact (Nat.mod_eq_of_lt (Nat.lt_trans (Nat.mod_lt _ hb0) hbB)).symm))) ?_
        refine AW.exit ?_
        refine AW.seq ?_
        refine AW.region ?_
        refine AO.xs rfl rfl rfl (XS.move rfl) ?_
        refine AO.freezeL 71 rfl (Nat.zero_le _) rfl (fx_len _ _ _).symm ?_
        refine AO.xs rfl rfl rfl (XS.call rfl (by kernel_rfl) rfl (l02Trim_c (by omega) (Nat.lt_of_le_of_lt (Nat.div_le_self _ _) (lt_nl (by decide) a)))) ?_
        refine AO.xs rfl rfl rfl (XS.move rfl) ?_
        refine AO.xs rfl rfl rfl (XS.buildSlice (ap rfl) rfl rfl rfl (by decide)) ?_
        refine AO.xs rfl rfl rfl (XS.call rfl (by kernel_rfl) rfl (l02Trim_c (k := 1) (V := a % b) (by omega) (by rw [Nat.pow_one]; exact Nat.lt_trans (Nat.mod_lt _ hb0) hbB))) ?_
        refine AO.xs rfl rfl rfl (XS.assign rfl) ?_
        refine AO.xs rfl rfl rfl (XS.assign rfl) ?_
        refine AO.nil ?_
        refine AW.ret ?_
        exact ⟨_, rfl, rfl⟩
    · skip
      replace hb2 := ne_of_beq_false hb2
      obtain ⟨m, hm⟩ : ∃ m, nl 16777216 b = m + 2 := ⟨nl 16777216 b - 2, by omega⟩
      obtain ⟨D, hD⟩ : ∃ D, nl 16777216 a = m + 2 + D := ⟨nl 16777216 a - (m + 2), by omega⟩
      have hbl := pow_le_of_nl (b := 16777216) (n := b) (by decide) (k := m + 1) (by omega)
      have haK : a < 16777216 ^ (m + 2 + D) := by rw [← hD]; exact lt_nl (by decide) a
      have ht0 : 0 < (b / 16777216 ^ (m + 1) % 16777216) := Nat.pos_of_ne_zero (by have h := (top_ne (b := 16777216) (by decide) (show b ≠ 0 by omega)).1; rw [hm] at h; exact h)
      refine AW.tell 6 rfl (intEq (congrArg Nat.cast hm)) ?_
      refine AW.skip ?_
      refine AW.seq ?_
      refine AW.region ?_
      refine AO.xs rfl rfl rfl (XS.assign rfl) ?_
      refine AO.nil ?_
      refine AW.seq ?_
      refine AW.block ?_
      refine AW.loop [0, 1, 4, 5, 6] (fun s => [(11, .d (.im (.int .u64 ((s : Nat) : Int))))]) (fun _ => _) (fun s => s ≤ 23 ∧ (b / 16777216 ^ (m + 1) % 16777216) * 2 ^ s < 16777216) (fun s => 24 - s) (0) ⟨by omega, by rw [Nat.pow_zero, Nat.mul_one]; exact Nat.mod_lt _ (by decide)⟩ ⟨rfl, trivial⟩ ⟨⟨_, rfl, rfl⟩, ⟨_, rfl, rfl⟩, ⟨_, rfl, rfl⟩, ⟨_, rfl, rfl⟩, ⟨_, rfl, rfl⟩, trivial⟩ rfl ?_
      intro s ⟨hs23, hs1⟩
      refine AW.seq ?_
      refine AW.seq ?_
      refine AW.region ?_
      refine AO.xs rfl rfl rfl (XS.move rfl) ?_
      refine AO.xs rfl rfl rfl (XS.move rfl) ?_
      refine AO.xs rfl rfl rfl (XS.subN (n := 1) rfl rfl (by omega)) ?_
      refine AO.tell 78 rfl (intEq (congrArg Nat.cast (show _ = m + 1 from rfl))) ?_
      refine AO.xs rfl rfl rfl (XS.indexL rfl rfl (el rfl) (by omega)) ?_
      refine AO.xs rfl rfl rfl (XS.loadE rfl (on rfl) rfl) ?_
      refine AO.xs rfl rfl rfl (XS.move rfl) ?_
      refine AO.xs rfl rfl rfl (XS.shlI rfl rfl (by omega) (by omega)) ?_
      refine AO.xs rfl rfl rfl (XS.int rfl rfl rfl) ?_
      refine AO.nil ?_
      refine AW.cond rfl (fun hb4 => ?_) (fun hb4 => ?_)
      · skip
        replace hb4 := of_decide_eq_true hb4
        refine AW.skip ?_
        refine AW.block ?_
        refine AW.region ?_
        refine AO.xs rfl rfl rfl (XS.move rfl) ?_
        refine AO.xs rfl rfl rfl (XS.addU (n := 1) rfl rfl) ?_
        refine AO.xs rfl rfl rfl (XS.assign rfl) ?_
        refine AO.nil ?_
        exact ⟨s + 1, s_next ht0 (by omega), (by dsimp only; omega), ⟨lk_D rfl (intEq (congrArg Nat.cast (show _ = s + 1 by omega))), trivial⟩, ⟨⟨_, rfl, rfl⟩, ⟨_, rfl, rfl⟩, ⟨_, rfl, rfl⟩, ⟨_, rfl, rfl⟩, ⟨_, rfl, rfl⟩, trivial⟩, rfl⟩
      · skip
        replace hb4 := of_decide_eq_false hb4
        obtain ⟨n1, n2, n3, n4⟩ := norm24 hm hs23 hs1 (by omega)
        have hV0 : 0 < b * 2 ^ s := Nat.mul_pos hb0 (Nat.pow_pos (by decide))
        have hvt := digit_lt (by decide) n1
        have hnV := nl_eq (b := 16777216) (by decide) n1 n3
        refine AW.exit ?_
        refine AW.seq ?_
        refine AW.region ?_
        refine AO.xs rfl rfl rfl (XS.move rfl) ?_
        refine AO.xs rfl rfl rfl (XS.move rfl) ?_
        refine AO.callR rfl rfl rfl (by kernel_rfl) rfl rfl (Nat.zero_le _) (l02Left_c (a := a) (by omega) hs23) ?_
        refine AO.xs rfl rfl rfl (XS.assign rfl) ?_
        refine AO.nil ?_
        refine AW.seq ?_
        refine AW.region ?_
        refine AO.xs rfl rfl rfl (XS.move rfl) ?_
        refine AO.xs rfl rfl rfl (XS.move rfl) ?_
        refine AO.xs rfl rfl rfl (XS.call rfl (by kernel_rfl) rfl ((l02Left_c (a := b) (by omega) hs23).toAC (fx_len _ _ _).symm)) ?_
        refine AO.xs rfl rfl rfl (XS.call rfl (by kernel_rfl) rfl (l02Trim_c (by omega) (Nat.lt_of_lt_of_le n1 (Nat.pow_le_pow_right (by decide) (by omega))))) ?_
        refine AO.xs rfl rfl rfl (XS.assign rfl) ?_
        refine AO.nil ?_
        refine AW.seq ?_
        refine AW.region ?_
        refine AO.xs rfl rfl rfl (XS.move rfl) ?_
        refine AO.xs rfl rfl rfl (XS.lenR rfl (el rfl)) ?_
        refine AO.xs rfl rfl rfl (XS.move rfl) ?_
        refine AO.xs rfl rfl rfl (XS.subN rfl rfl (by omega)) ?_
        refine AO.tell 96 rfl (intEq (congrArg Nat.cast (show _ = D + 1 by omega))) ?_
        refine AO.xs rfl rfl rfl (XS.assign rfl) ?_
        refine AO.nil ?_
        refine AW.seq ?_
        refine AW.region ?_
        refine AO.xs rfl rfl rfl (XS.move rfl) ?_
        refine AO.makeC (16777216) rfl rfl rfl rfl (ap rfl) (Nat.le_refl _) (by omega) ?_
        refine AO.xs rfl rfl rfl (XS.assign rfl) ?_
        refine AO.nil ?_
        refine AW.seq ?_
        refine AW.seq ?_
        refine AW.region ?_
        refine AO.xs rfl rfl rfl (XS.move rfl) ?_
        refine AO.xs rfl rfl rfl (XS.subI rfl rfl (by omega)) ?_
        refine AO.xs rfl rfl rfl (XS.assign rfl) ?_
        refine AO.nil ?_
        refine AW.block ?_
        refine AW.loop (α := Nat × Nat × Nat) [4, 5, 6, 11, 12, 13, 15] (fun ((J, U, Q) : Nat × Nat × Nat) => [(16, .d (intD (((J : Nat) : Int) - 1)))]) (fun ((J, U, Q) : Nat × Nat × Nat) => [nkD .i64 (fx 16777216 (nl 16777216 a + 1) U), nkD .i64 (fx 16777216 (D + 1) Q)]) (fun ((J, U, Q) : Nat × Nat × Nat) => J ≤ D + 1 ∧ DV 16777216 (a * 2 ^ s) (b * 2 ^ s) J U Q) (fun ((J, U, Q) : Nat × Nat × Nat) => J) ((D + 1, a * 2 ^ s, 0)) ⟨Nat.le_refl _, DV.go (by decide) haK hbl⟩ ⟨rfl, trivial⟩ ⟨⟨_, rfl, rfl⟩, ⟨_, rfl, rfl⟩, ⟨_, rfl, rfl⟩, ⟨_, rfl, rfl⟩, ⟨_, rfl, rfl⟩, ⟨_, rfl, rfl⟩, ⟨_, rfl, rfl⟩, trivial⟩ rfl ?_
        intro ⟨J, U, Q⟩ ⟨hJ, hV⟩
        refine AW.seq ?_
        refine AW.seq ?_
        refine AW.region ?_
        refine AO.xs rfl rfl rfl (XS.move rfl) ?_
        refine AO.xs rfl rfl rfl (XS.int rfl rfl rfl) ?_
        refine AO.nil ?_
        refine AW.cond rfl (fun hb5 => ?_) (fun hb5 => ?_)
        · skip
          replace hb5 := of_decide_eq_true hb5
          obtain ⟨j, rfl⟩ : ∃ j, J = j + 1 := ⟨J - 1, by omega⟩
          refine AW.tell 16 rfl (intEq (show ((j + 1 : Nat) : Int) - 1 = ((j : Nat) : Int) by omega)) ?_
          have hU := hV.low
          have hUB := U_lt hU n1 (by decide)
          have ht := top_word (by decide) hU n1
          obtain ⟨g1, g2⟩ := knuth_at (b := 16777216) (n := m) (j := j) (by decide) n3 hU
          have hxv := top_le (m := m) (by decide) hU
          obtain ⟨x, hx⟩ : ∃ x, x = U / 16777216 ^ (j + m + 2) := ⟨_, rfl⟩
          obtain ⟨y, hy⟩ : ∃ y, y = U / 16777216 ^ (j + m + 1) % 16777216 := ⟨_, rfl⟩
          obtain ⟨z, hz⟩ : ∃ z, z = U / 16777216 ^ (j + m) % 16777216 := ⟨_, rfl⟩
          obtain ⟨v1, hv1⟩ : ∃ v1, v1 = b * 2 ^ s / 16777216 ^ (m + 1) := ⟨_, rfl⟩
          obtain ⟨w2, hw2⟩ : ∃ w2, w2 = b * 2 ^ s / 16777216 ^ m % 16777216 := ⟨_, rfl⟩
          rw [← hx, ← hy, ← hz, ← hv1, ← hw2] at g1 g2
          rw [← hx, ← hv1] at hxv
          have hvB : v1 < 16777216 := by rw [hv1]; exact hvt
          have hv2 : 16777216 ≤ 2 * v1 := by rw [hv1]; exact n2
          have hyB : y < 16777216 := by rw [hy]; exact Nat.mod_lt _ (by decide)
          have hzB : z < 16777216 := by rw [hz]; exact Nat.mod_lt _ (by decide)
          have hwB : w2 < 16777216 := by rw [hw2]; exact Nat.mod_lt _ (by decide)
          have hxB := Nat.lt_of_le_of_lt hxv hvB
          have hN := guess_lt hxv hyB
          have hqs := top_small hN hv2
          have hrs := Nat.mod_lt (x * 16777216 + y) (show 0 < v1 by omega)
          refine AW.skip ?_
          refine AW.seq ?_
          refine AW.block ?_
          refine AW.seq ?_
          refine AW.drawn mix ?_
          refine DC.cons rfl rfl rfl (XS.move rfl) ?_
          refine DC.cons rfl rfl rfl (XS.move rfl) ?_
          refine DC.cons rfl rfl rfl (XS.move rfl) ?_
          refine DC.cons rfl rfl rfl ((XS.addN rfl rfl (by omega)).toI (congrArg Nat.cast (show j + (m + 2) = j + m + 2 by omega))) ?_
          refine DC.cons rfl rfl rfl (XS.indexR1 rfl rfl (el rfl) (by omega)) ?_
          refine DC.cons rfl rfl rfl ((XS.loadL rfl (on rfl) rfl (by omega)).toI (congrArg Nat.cast ((Nat.mod_eq_of_lt ht).trans hx.symm))) ?_
          refine DC.cons rfl rfl rfl (XS.shlI (n := 24) rfl rfl (by decide) (l24 hxB)) ?_
          refine DC.cons rfl rfl rfl (XS.move rfl) ?_
          refine DC.cons rfl rfl rfl (XS.move rfl) ?_
          refine DC.cons rfl rfl rfl (XS.move rfl) ?_
          refine DC.cons rfl rfl rfl (XS.addN rfl rfl (by omega)) ?_
          refine DC.cons rfl rfl rfl ((XS.subN (n := 1) rfl rfl (by omega)).toI (congrArg Nat.cast (show j + (m + 2) - 1 = j + m + 1 by omega))) ?_
          refine DC.cons rfl rfl rfl (XS.indexR1 rfl rfl (el rfl) (by omega)) ?_
          refine DC.cons rfl rfl rfl ((XS.loadL rfl (on rfl) rfl (by omega)).toI (congrArg Nat.cast hy.symm)) ?_
          refine DC.cons rfl rfl rfl ((XS.orI rfl rfl (l24 hxB) (w24 hyB)).toI (congrArg Nat.cast (show _ = x * 16777216 + y from or_add (k := 24) hyB))) ?_
          refine DC.cons rfl rfl rfl (XS.assign rfl) ?_
          refine DC.done (by kernel_rfl) ?_
          refine AO.nil ?_
          refine AW.seq ?_
          refine AW.region ?_
          refine AO.xs rfl rfl rfl (XS.move rfl) ?_
          refine AO.xs rfl rfl rfl (XS.move rfl) ?_
          refine AO.xs rfl rfl rfl (XS.move rfl) ?_
          refine AO.xs rfl rfl rfl ((XS.subN (n := 1) rfl rfl (by omega)).toI (congrArg Nat.cast (show m + 2 - 1 = m + 1 by omega))) ?_
          refine AO.xs rfl rfl rfl (XS.indexL rfl rfl (el rfl) (by omega)) ?_
          refine AO.xs rfl rfl rfl ((XS.loadE rfl (on rfl) rfl).toI (congrArg Nat.cast ((Nat.mod_eq_of_lt hvt).trans hv1.symm))) ?_
          refine AO.xs rfl rfl rfl (XS.quoI rfl rfl (by omega) (by omega)) ?_
          refine AO.xs rfl rfl rfl (XS.assign rfl) ?_
          refine AO.nil ?_
          refine AW.seq ?_
          refine AW.region ?_
          refine AO.xs rfl rfl rfl (XS.move rfl) ?_
          refine AO.xs rfl rfl rfl (XS.move rfl) ?_
          refine AO.xs rfl rfl rfl (XS.move rfl) ?_
          refine AO.xs rfl rfl rfl ((XS.subN (n := 1) rfl rfl (by omega)).toI (congrArg Nat.cast (show m + 2 - 1 = m + 1 by omega))) ?_
          refine AO.xs rfl rfl rfl (XS.indexL rfl rfl (el rfl) (by omega)) ?_
          refine AO.xs rfl rfl rfl ((XS.loadE rfl (on rfl) rfl).toI (congrArg Nat.cast ((Nat.mod_eq_of_lt hvt).trans hv1.symm))) ?_
          refine AO.xs rfl rfl rfl (XS.remI rfl rfl (by omega)) ?_
          refine AO.xs rfl rfl rfl (XS.assign rfl) ?_
          refine AO.nil ?_
          refine AW.cutS [4, 5, 6, 11, 12, 13, 15, 16, 17, 101, 102, 105, 106, 107, 108, 109, 110, 111, 112, 113, 114, 115, 116, 117, 118, 119, 120, 121, 122, 123, 124, 125, 126, 127, 128, 129, 130, 131, 132, 133] (fun (q : Nat) => [(18, .d (intD (q : Int)))]) (fun q => q = dgt 16777216 (x * 16777216 + y) z v1 w2) ?_ ?_
          · skip
            refine AW.block ?_
            refine AW.loop (α := Nat × Nat) [4, 5, 6, 11, 12, 13, 15, 16, 17, 101, 102, 105, 106, 107, 108, 109, 110, 111, 112, 113, 114, 115, 116, 117, 118, 119, 120, 121, 122, 123, 124, 125, 126, 127, 128, 129, 130, 131, 132, 133] (fun ((q, r) : Nat × Nat) => [(18, .d (intD (q : Int))), (19, .d (intD (r : Int)))]) (fun _ => _) (fun ((q, r) : Nat × Nat) => q * v1 + r = x * 16777216 + y ∧ r < 16777216 ∧ q ≤ 16777216 + 1 ∧ dgt 16777216 (x * 16777216 + y) z v1 w2 ≤ q) (fun ((q, r) : Nat × Nat) => q) (((x * 16777216 + y) / v1, (x * 16777216 + y) % v1)) ⟨by rw [Nat.mul_comm]; exact Nat.div_add_mod _ _, Nat.lt_of_lt_of_le (Nat.mod_lt _ (by omega)) (by omega), top_small hN (by omega), dgt_top (by omega) (by decide) hzB⟩ ⟨rfl, rfl, trivial⟩ ⟨⟨_, rfl, rfl⟩, ⟨_, rfl, rfl⟩, ⟨_, rfl, rfl⟩, ⟨_, rfl, rfl⟩, ⟨_, rfl, rfl⟩, ⟨_, rfl, rfl⟩, ⟨_, rfl, rfl⟩, ⟨_, rfl, rfl⟩, ⟨_, rfl, rfl⟩, ⟨_, rfl, rfl⟩, ⟨_, rfl, rfl⟩, ⟨_, rfl, rfl⟩, ⟨_, rfl, rfl⟩, ⟨_, rfl, rfl⟩, ⟨_, rfl, rfl⟩, ⟨_, rfl, rfl⟩, ⟨_, rfl, rfl⟩, ⟨_, rfl, rfl⟩, ⟨_, rfl, rfl⟩, ⟨_, rfl, rfl⟩, ⟨_, rfl, rfl⟩, ⟨_, rfl, rfl⟩, ⟨_, rfl, rfl⟩, ⟨_, rfl, rfl⟩, ⟨_, rfl, rfl⟩, ⟨_, rfl, rfl⟩, ⟨_, rfl, rfl⟩, ⟨_, rfl, rfl⟩, ⟨_, rfl, rfl⟩, ⟨_, rfl, rfl⟩, ⟨_, rfl, rfl⟩, ⟨_, rfl, rfl⟩, ⟨_, rfl, rfl⟩, ⟨_, rfl, rfl⟩, ⟨_, rfl, rfl⟩, ⟨_, rfl, rfl⟩, ⟨_, rfl, rfl⟩, ⟨_, rfl, rfl⟩, ⟨_, rfl, rfl⟩, ⟨_, rfl, rfl⟩, trivial⟩ rfl ?_
            intro ⟨q, r⟩ ⟨he, hr, hq, hd⟩
            have w1 : q * w2 ≤ 16777217 * 16777215 := Nat.mul_le_mul hq (by omega)
            refine AW.seq ?_
            refine AW.seq ?_
            refine AW.drawn mix ?_
            refine DC.cons rfl rfl rfl (XS.move rfl) ?_
            refine DC.cons rfl rfl rfl (XS.int rfl rfl rfl) ?_
            refine DC.cons rfl rfl rfl (XS.move rfl) ?_
            refine DC.split 136 rfl (fun hg6 => ?_) (fun hg6 => ?_)
            · skip
              have hg6n := of_decide_eq_true hg6
              refine DC.gno rfl rfl rfl rfl rfl rfl hg6 (by decide) rfl ?_
              refine DC.gno rfl rfl rfl rfl rfl rfl hg6 (by decide) rfl ?_
              refine DC.gno rfl rfl rfl rfl rfl rfl hg6 (by decide) rfl ?_
              refine DC.gno rfl rfl rfl rfl rfl rfl hg6 (by decide) rfl ?_
              refine DC.gno rfl rfl rfl rfl rfl rfl hg6 (by decide) rfl ?_
              refine DC.gno rfl rfl rfl rfl rfl rfl hg6 (by decide) rfl ?_
              refine DC.gno rfl rfl rfl rfl rfl rfl hg6 (by decide) rfl ?_
              refine DC.gno rfl rfl rfl rfl rfl rfl hg6 (by decide) rfl ?_
              refine DC.gno rfl rfl rfl rfl rfl rfl hg6 (by decide) rfl ?_
              refine DC.gno rfl rfl rfl rfl rfl rfl hg6 (by decide) rfl ?_
              refine DC.gno rfl rfl rfl rfl rfl rfl hg6 (by decide) rfl ?_
              refine DC.gno rfl rfl rfl rfl rfl rfl hg6 (by decide) rfl ?_
              refine DC.gno rfl rfl rfl rfl rfl rfl hg6 (by decide) rfl ?_
              refine DC.gno rfl rfl rfl rfl rfl rfl hg6 (by decide) rfl ?_
              refine DC.gno rfl rfl rfl rfl rfl rfl hg6 (by decide) rfl ?_
              refine DC.gno rfl rfl rfl rfl rfl rfl hg6 (by decide) rfl ?_
              refine DC.gno rfl rfl rfl rfl rfl rfl hg6 (by decide) rfl ?_
              refine DC.gno rfl rfl rfl rfl rfl rfl hg6 (by decide) rfl ?_
              refine DC.cons rfl rfl rfl (XS.pickT rfl rfl hg6) ?_
              refine DC.done (by kernel_rfl) ?_
              refine AO.nil ?_
              refine AW.condT rfl rfl ?_
              refine AW.skip ?_
              refine AW.block ?_
              refine AW.seq ?_
              have hdq : dgt 16777216 (x * 16777216 + y) z v1 w2 < q := by first | exact dgt_big (big24 hg6n) (by decide) | exact dgt_lt (by omega) (by decide) he (Int.ofNat_lt.1 hb8)
              have hq0 : 0 < q := Nat.lt_of_le_of_lt (Nat.zero_le _) hdq
              refine AW.region ?_
              refine AO.xs rfl rfl rfl (XS.move rfl) ?_
              refine AO.xs rfl rfl rfl (XS.subN (n := 1) rfl rfl (by omega)) ?_
              refine AO.xs rfl rfl rfl (XS.assign rfl) ?_
              refine AO.nil ?_
              refine AW.seq ?_
              refine AW.region ?_
              refine AO.xs rfl rfl rfl (XS.move rfl) ?_
              refine AO.xs rfl rfl rfl (XS.move rfl) ?_
              refine AO.xs rfl rfl rfl (XS.move rfl) ?_
              refine AO.xs rfl rfl rfl ((XS.subN (n := 1) rfl rfl (by omega)).toI (congrArg Nat.cast (show m + 2 - 1 = m + 1 by omega))) ?_
              refine AO.xs rfl rfl rfl (XS.indexL rfl rfl (el rfl) (by omega)) ?_
              refine AO.xs rfl rfl rfl ((XS.loadE rfl (on rfl) rfl).toI (congrArg Nat.cast ((Nat.mod_eq_of_lt hvt).trans hv1.symm))) ?_
              refine AO.xs rfl rfl rfl (XS.addN rfl rfl (by omega)) ?_
              refine AO.xs rfl rfl rfl (XS.assign rfl) ?_
              refine AO.nil ?_
              refine AW.seq ?_
              refine AW.region ?_
              refine AO.xs rfl rfl rfl (XS.move rfl) ?_
              refine AO.xs rfl rfl rfl (XS.int rfl rfl rfl) ?_
              refine AO.nil ?_
              refine AW.cond rfl (fun hb7 => ?_) (fun hb7 => ?_)
              · skip
                replace hb7 := of_decide_eq_true hb7
                refine AW.exit ?_
                exact ⟨q - 1, (dgt_full (b := 16777216) (by omega) (by decide) hwB (step_qr he hq0) (by omega) (full_lt (step_qr he hq0) hN (by omega)) (Nat.le_sub_one_of_lt hdq)).symm, ⟨rfl, trivial⟩, ⟨⟨_, rfl, rfl⟩, ⟨_, rfl, rfl⟩, ⟨_, rfl, rfl⟩, ⟨_, rfl, rfl⟩, ⟨_, rfl, rfl⟩, ⟨_, rfl, rfl⟩, ⟨_, rfl, rfl⟩, ⟨_, rfl, rfl⟩, ⟨_, rfl, rfl⟩, ⟨_, rfl, rfl⟩, ⟨_, rfl, rfl⟩, ⟨_, rfl, rfl⟩, ⟨_, rfl, rfl⟩, ⟨_, rfl, rfl⟩, ⟨_, rfl, rfl⟩, ⟨_, rfl, rfl⟩, ⟨_, rfl, rfl⟩, ⟨_, rfl, rfl⟩, ⟨_, rfl, rfl⟩, ⟨_, rfl, rfl⟩, ⟨_, rfl, rfl⟩, ⟨_, rfl, rfl⟩, ⟨_, rfl, rfl⟩, ⟨_, rfl, rfl⟩, ⟨_, rfl, rfl⟩, ⟨_, rfl, rfl⟩, ⟨_, rfl, rfl⟩, ⟨_, rfl, rfl⟩, ⟨_, rfl, rfl⟩, ⟨_, rfl, rfl⟩, ⟨_, rfl, rfl⟩, ⟨_, rfl, rfl⟩, ⟨_, rfl, rfl⟩, ⟨_, rfl, rfl⟩, ⟨_, rfl, rfl⟩, ⟨_, rfl, rfl⟩, ⟨_, rfl, rfl⟩, ⟨_, rfl, rfl⟩, ⟨_, rfl, rfl⟩, ⟨_, rfl, rfl⟩, trivial⟩, rfl⟩
              · skip
                replace hb7 := of_decide_eq_false hb7
                refine AW.skip ?_
                exact ⟨(q - 1, r + v1), ⟨step_qr he hq0, by omega, by omega, Nat.le_sub_one_of_lt hdq⟩, (by dsimp only; omega), ⟨rfl, rfl, trivial⟩, ⟨⟨_, rfl, rfl⟩, ⟨_, rfl, rfl⟩, ⟨_, rfl, rfl⟩, ⟨_, rfl, rfl⟩, ⟨_, rfl, rfl⟩, ⟨_, rfl, rfl⟩, ⟨_, rfl, rfl⟩, ⟨_, rfl, rfl⟩, ⟨_, rfl, rfl⟩, ⟨_, rfl, rfl⟩, ⟨_, rfl, rfl⟩, ⟨_, rfl, rfl⟩, ⟨_, rfl, rfl⟩, ⟨_, rfl, rfl⟩, ⟨_, rfl, rfl⟩, ⟨_, rfl, rfl⟩, ⟨_, rfl, rfl⟩, ⟨_, rfl, rfl⟩, ⟨_, rfl, rfl⟩, ⟨_, rfl, rfl⟩, ⟨_, rfl, rfl⟩, ⟨_, rfl, rfl⟩, ⟨_, rfl, rfl⟩, ⟨_, rfl, rfl⟩, ⟨_, rfl, rfl⟩, ⟨_, rfl, rfl⟩, ⟨_, rfl, rfl⟩, ⟨_, rfl, rfl⟩, ⟨_, rfl, rfl⟩, ⟨_, rfl, rfl⟩, ⟨_, rfl, rfl⟩, ⟨_, rfl, rfl⟩, ⟨_, rfl, rfl⟩, ⟨_, rfl, rfl⟩, ⟨_, rfl, rfl⟩, ⟨_, rfl, rfl⟩, ⟨_, rfl, rfl⟩, ⟨_, rfl, rfl⟩, ⟨_, rfl, rfl⟩, ⟨_, rfl, rfl⟩, trivial⟩, rfl⟩
            · skip
              have hg6n := of_decide_eq_false hg6
              refine DC.gyes rfl rfl rfl rfl rfl rfl hg6 rfl (XS.move rfl) ?_
              refine DC.gyes rfl rfl rfl rfl rfl rfl hg6 rfl (XS.move rfl) ?_
              refine DC.gyes rfl rfl rfl rfl rfl rfl hg6 rfl (XS.move rfl) ?_
              refine DC.gyes rfl rfl rfl rfl rfl rfl hg6 rfl ((XS.subN (n := 2) rfl rfl (by omega)).toI (congrArg Nat.cast (show m + 2 - 2 = m by omega))) ?_
              refine DC.gyes rfl rfl rfl rfl rfl rfl hg6 rfl (XS.indexL rfl rfl (el rfl) (by omega)) ?_
              refine DC.gyes rfl rfl rfl rfl rfl rfl hg6 rfl ((XS.loadE rfl (on rfl) rfl).toI (congrArg Nat.cast hw2.symm)) ?_
              refine DC.gyes rfl rfl rfl rfl rfl rfl hg6 rfl (XS.mulN rfl rfl (Nat.lt_of_le_of_lt w1 (by decide))) ?_
              refine DC.gyes rfl rfl rfl rfl rfl rfl hg6 rfl (XS.move rfl) ?_
              refine DC.gyes rfl rfl rfl rfl rfl rfl hg6 rfl (XS.shlI (n := 24) rfl rfl (by decide) (l24 hr)) ?_
              refine DC.gyes rfl rfl rfl rfl rfl rfl hg6 rfl (XS.move rfl) ?_
              refine DC.gyes rfl rfl rfl rfl rfl rfl hg6 rfl (XS.move rfl) ?_
              refine DC.gyes rfl rfl rfl rfl rfl rfl hg6 rfl (XS.move rfl) ?_
              refine DC.gyes rfl rfl rfl rfl rfl rfl hg6 rfl (XS.addN rfl rfl (by omega)) ?_
              refine DC.gyes rfl rfl rfl rfl rfl rfl hg6 rfl ((XS.subN (n := 2) rfl rfl (by omega)).toI (congrArg Nat.cast (show j + (m + 2) - 2 = j + m by omega))) ?_
              refine DC.gyes rfl rfl rfl rfl rfl rfl hg6 rfl (XS.indexR1 rfl rfl (el rfl) (by omega)) ?_
              refine DC.gyes rfl rfl rfl rfl rfl rfl hg6 rfl ((XS.loadL rfl (on rfl) rfl (by omega)).toI (congrArg Nat.cast hz.symm)) ?_
              refine DC.gyes rfl rfl rfl rfl rfl rfl hg6 rfl ((XS.orI rfl rfl (l24 hr) (w24 hzB)).toI (congrArg Nat.cast (show _ = r * 16777216 + z from or_add (k := 24) hzB))) ?_
              refine DC.gyes rfl rfl rfl rfl rfl rfl hg6 rfl (XS.int rfl rfl rfl) ?_
              refine DC.cons rfl rfl rfl (XS.pickF rfl rfl hg6) ?_
              refine DC.done (by kernel_rfl) ?_
              refine AO.nil ?_
              refine AW.cond rfl (fun hb8 => ?_) (fun hb8 => ?_)
              · skip
                replace hb8 := of_decide_eq_true hb8
                refine AW.skip ?_
                refine AW.block ?_
                refine AW.seq ?_
                have hdq : dgt 16777216 (x * 16777216 + y) z v1 w2 < q := by first | exact dgt_big (big24 hg6n) (by decide) | exact dgt_lt (by omega) (by decide) he (Int.ofNat_lt.1 hb8)
                have hq0 : 0 < q := Nat.lt_of_le_of_lt (Nat.zero_le _) hdq
                refine AW.region ?_
                refine AO.xs rfl rfl rfl (XS.move rfl) ?_
                refine AO.xs rfl rfl rfl (XS.subN (n := 1) rfl rfl (by omega)) ?_
                refine AO.xs rfl rfl rfl (XS.assign rfl) ?_
                refine AO.nil ?_
                refine AW.seq ?_
                refine AW.region ?_
                refine AO.xs rfl rfl rfl (XS.move rfl) ?_
                refine AO.xs rfl rfl rfl (XS.move rfl) ?_
                refine AO.xs rfl rfl rfl (XS.move rfl) ?_
                refine AO.xs rfl rfl rfl ((XS.subN (n := 1) rfl rfl (by omega)).toI (congrArg Nat.cast (show m + 2 - 1 = m + 1 by omega))) ?_
                refine AO.xs rfl rfl rfl (XS.indexL rfl rfl (el rfl) (by omega)) ?_
                refine AO.xs rfl rfl rfl ((XS.loadE rfl (on rfl) rfl).toI (congrArg Nat.cast ((Nat.mod_eq_of_lt hvt).trans hv1.symm))) ?_
                refine AO.xs rfl rfl rfl (XS.addN rfl rfl (by omega)) ?_
                refine AO.xs rfl rfl rfl (XS.assign rfl) ?_
                refine AO.nil ?_
                refine AW.seq ?_
                refine AW.region ?_
                refine AO.xs rfl rfl rfl (XS.move rfl) ?_
                refine AO.xs rfl rfl rfl (XS.int rfl rfl rfl) ?_
                refine AO.nil ?_
                refine AW.cond rfl (fun hb9 => ?_) (fun hb9 => ?_)
                · skip
                  replace hb9 := of_decide_eq_true hb9
                  refine AW.exit ?_
                  exact ⟨q - 1, (dgt_full (b := 16777216) (by omega) (by decide) hwB (step_qr he hq0) (by omega) (full_lt (step_qr he hq0) hN (by omega)) (Nat.le_sub_one_of_lt hdq)).symm, ⟨rfl, trivial⟩, ⟨⟨_, rfl, rfl⟩, ⟨_, rfl, rfl⟩, ⟨_, rfl, rfl⟩, ⟨_, rfl, rfl⟩, ⟨_, rfl, rfl⟩, ⟨_, rfl, rfl⟩, ⟨_, rfl, rfl⟩, ⟨_, rfl, rfl⟩, ⟨_, rfl, rfl⟩, ⟨_, rfl, rfl⟩, ⟨_, rfl, rfl⟩, ⟨_, rfl, rfl⟩, ⟨_, rfl, rfl⟩, ⟨_, rfl, rfl⟩, ⟨_, rfl, rfl⟩, ⟨_, rfl, rfl⟩, ⟨_, rfl, rfl⟩, ⟨_, rfl, rfl⟩, ⟨_, rfl, rfl⟩, ⟨_, rfl, rfl⟩, ⟨_, rfl, rfl⟩, ⟨_, rfl, rfl⟩, ⟨_, rfl, rfl⟩, ⟨_, rfl, rfl⟩, ⟨_, rfl, rfl⟩, ⟨_, rfl, rfl⟩, ⟨_, rfl, rfl⟩, ⟨_, rfl, rfl⟩, ⟨_, rfl, rfl⟩, ⟨_, rfl, rfl⟩, ⟨_, rfl, rfl⟩, ⟨_, rfl, rfl⟩, ⟨_, rfl, rfl⟩, ⟨_, rfl, rfl⟩, ⟨_, rfl, rfl⟩, ⟨_, rfl, rfl⟩, ⟨_, rfl, rfl⟩, ⟨_, rfl, rfl⟩, ⟨_, rfl, rfl⟩, ⟨_, rfl, rfl⟩, trivial⟩, rfl⟩
                · skip
                  replace hb9 := of_decide_eq_false hb9
                  refine AW.skip ?_
                  exact ⟨(q - 1, r + v1), ⟨step_qr he hq0, by omega, by omega, Nat.le_sub_one_of_lt hdq⟩, (by dsimp only; omega), ⟨rfl, rfl, trivial⟩, ⟨⟨_, rfl, rfl⟩, ⟨_, rfl, rfl⟩, ⟨_, rfl, rfl⟩, ⟨_, rfl, rfl⟩, ⟨_, rfl, rfl⟩, ⟨_, rfl, rfl⟩, ⟨_, rfl, rfl⟩, ⟨_, rfl, rfl⟩, ⟨_, rfl, rfl⟩, ⟨_, rfl, rfl⟩, ⟨_, rfl, rfl⟩, ⟨_, rfl, rfl⟩, ⟨_, rfl, rfl⟩, ⟨_, rfl, rfl⟩, ⟨_, rfl, rfl⟩, ⟨_, rfl, rfl⟩, ⟨_, rfl, rfl⟩, ⟨_, rfl, rfl⟩, ⟨_, rfl, rfl⟩, ⟨_, rfl, rfl⟩, ⟨_, rfl, rfl⟩, ⟨_, rfl, rfl⟩, ⟨_, rfl, rfl⟩, ⟨_, rfl, rfl⟩, ⟨_, rfl, rfl⟩, ⟨_, rfl, rfl⟩, ⟨_, rfl, rfl⟩, ⟨_, rfl, rfl⟩, ⟨_, rfl, rfl⟩, ⟨_, rfl, rfl⟩, ⟨_, rfl, rfl⟩, ⟨_, rfl, rfl⟩, ⟨_, rfl, rfl⟩, ⟨_, rfl, rfl⟩, ⟨_, rfl, rfl⟩, ⟨_, rfl, rfl⟩, ⟨_, rfl, rfl⟩, ⟨_, rfl, rfl⟩, ⟨_, rfl, rfl⟩, ⟨_, rfl, rfl⟩, trivial⟩, rfl⟩
              · skip
                replace hb8 := of_decide_eq_false hb8
                refine AW.exit ?_
                exact ⟨q, (dgt_eq (b := 16777216) (by omega) (by decide) he (by omega) (by omega) hd).symm, ⟨rfl, trivial⟩, ⟨⟨_, rfl, rfl⟩, ⟨_, rfl, rfl⟩, ⟨_, rfl, rfl⟩, ⟨_, rfl, rfl⟩, ⟨_, rfl, rfl⟩, ⟨_, rfl, rfl⟩, ⟨_, rfl, rfl⟩, ⟨_, rfl, rfl⟩, ⟨_, rfl, rfl⟩, ⟨_, rfl, rfl⟩, ⟨_, rfl, rfl⟩, ⟨_, rfl, rfl⟩, ⟨_, rfl, rfl⟩, ⟨_, rfl, rfl⟩, ⟨_, rfl, rfl⟩, ⟨_, rfl, rfl⟩, ⟨_, rfl, rfl⟩, ⟨_, rfl, rfl⟩, ⟨_, rfl, rfl⟩, ⟨_, rfl, rfl⟩, ⟨_, rfl, rfl⟩, ⟨_, rfl, rfl⟩, ⟨_, rfl, rfl⟩, ⟨_, rfl, rfl⟩, ⟨_, rfl, rfl⟩, ⟨_, rfl, rfl⟩, ⟨_, rfl, rfl⟩, ⟨_, rfl, rfl⟩, ⟨_, rfl, rfl⟩, ⟨_, rfl, rfl⟩, ⟨_, rfl, rfl⟩, ⟨_, rfl, rfl⟩, ⟨_, rfl, rfl⟩, ⟨_, rfl, rfl⟩, ⟨_, rfl, rfl⟩, ⟨_, rfl, rfl⟩, ⟨_, rfl, rfl⟩, ⟨_, rfl, rfl⟩, ⟨_, rfl, rfl⟩, ⟨_, rfl, rfl⟩, trivial⟩, rfl⟩
          · skip
            intro q hq
            refine AW.seq ?_
            rw [← hq] at g1 g2
            have hqB : q < 16777216 := by rw [hq]; exact dgt_less (by decide)
            refine AW.region ?_
            refine AO.xs rfl rfl rfl (XS.assign rfl) ?_
            refine AO.nil ?_
            refine AW.seq ?_
            refine AW.seq ?_
            refine AW.region ?_
            refine AO.xs rfl rfl rfl (XS.assign rfl) ?_
            refine AO.nil ?_
            refine AW.block ?_
            refine AW.loop (α := Nat × Nat × Nat) [4, 5, 6, 11, 12, 13, 15, 16, 17, 18, 101, 102, 105, 106, 107, 108, 109, 110, 111, 112, 113, 114, 115, 116, 117, 118, 119, 120, 121, 122, 123, 124, 125, 126, 127, 128, 129, 130, 131, 132, 133] (fun ((i, W, c) : Nat × Nat × Nat) => [(20, .d (intD (c : Int))), (21, .d (intD (i : Int)))]) (fun ((i, W, c) : Nat × Nat × Nat) => [nkD .i64 (fx 16777216 (nl 16777216 a + 1) W), nkD .i64 (fx 16777216 (D + 1) Q)]) (fun ((i, W, c) : Nat × Nat × Nat) => i ≤ m + 2 ∧ MS 16777216 q (b * 2 ^ s) j U i W c) (fun ((i, W, c) : Nat × Nat × Nat) => m + 2 - i) ((0, U, 0)) ⟨Nat.zero_le _, MS.start (by decide)⟩ ⟨rfl, rfl, trivial⟩ ⟨⟨_, rfl, rfl⟩, ⟨_, rfl, rfl⟩, ⟨_, rfl, rfl⟩, ⟨_, rfl, rfl⟩, ⟨_, rfl, rfl⟩, ⟨_, rfl, rfl⟩, ⟨_, rfl, rfl⟩, ⟨_, rfl, rfl⟩, ⟨_, rfl, rfl⟩, ⟨_, rfl, rfl⟩, ⟨_, rfl, rfl⟩, ⟨_, rfl, rfl⟩, ⟨_, rfl, rfl⟩, ⟨_, rfl, rfl⟩, ⟨_, rfl, rfl⟩, ⟨_, rfl, rfl⟩, ⟨_, rfl, rfl⟩, ⟨_, rfl, rfl⟩, ⟨_, rfl, rfl⟩, ⟨_, rfl, rfl⟩, ⟨_, rfl, rfl⟩, ⟨_, rfl, rfl⟩, ⟨_, rfl, rfl⟩, ⟨_, rfl, rfl⟩, ⟨_, rfl, rfl⟩, ⟨_, rfl, rfl⟩, ⟨_, rfl, rfl⟩, ⟨_, rfl, rfl⟩, ⟨_, rfl, rfl⟩, ⟨_, rfl, rfl⟩, ⟨_, rfl, rfl⟩, ⟨_, rfl, rfl⟩, ⟨_, rfl, rfl⟩, ⟨_, rfl, rfl⟩, ⟨_, rfl, rfl⟩, ⟨_, rfl, rfl⟩, ⟨_, rfl, rfl⟩, ⟨_, rfl, rfl⟩, ⟨_, rfl, rfl⟩, ⟨_, rfl, rfl⟩, ⟨_, rfl, rfl⟩, trivial⟩ rfl ?_
            intro ⟨i, W, c⟩ ⟨hi, hM⟩
            have hc := hM.owe
            have hmm : q * (b * 2 ^ s / 16777216 ^ i % 16777216) ≤ 16777215 * 16777215 := Nat.mul_le_mul (Nat.le_sub_one_of_lt hqB) (Nat.le_sub_one_of_lt (Nat.mod_lt _ (by decide)))
            refine AW.seq ?_
            refine AW.seq ?_
            refine AW.region ?_
            refine AO.xs rfl rfl rfl (XS.move rfl) ?_
            refine AO.xs rfl rfl rfl (XS.move rfl) ?_
            refine AO.xs rfl rfl rfl (XS.int rfl rfl rfl) ?_
            refine AO.nil ?_
            refine AW.cond rfl (fun hb10 => ?_) (fun hb10 => ?_)
            · skip
              replace hb10 := of_decide_eq_true hb10
              refine AW.skip ?_
              refine AW.seq ?_
              refine AW.block ?_
              refine AW.seq ?_
              refine AW.drawn mix ?_
              refine DC.cons rfl rfl rfl (XS.move rfl) ?_
              refine DC.cons rfl rfl rfl (XS.move rfl) ?_
              refine DC.cons rfl rfl rfl (XS.move rfl) ?_
              refine DC.cons rfl rfl rfl (XS.addN rfl rfl (by omega)) ?_
              refine DC.cons rfl rfl rfl (XS.indexR1 rfl rfl (el rfl) (by omega)) ?_
              refine DC.cons rfl rfl rfl (XS.loadL rfl (on rfl) rfl (by omega)) ?_
              refine DC.cons rfl rfl rfl (XS.move rfl) ?_
              refine DC.cons rfl rfl rfl (XS.move rfl) ?_
              refine DC.cons rfl rfl rfl (XS.move rfl) ?_
              refine DC.cons rfl rfl rfl (XS.indexL rfl rfl (el rfl) (by omega)) ?_
              refine DC.cons rfl rfl rfl (XS.loadE rfl (on rfl) rfl) ?_
              refine DC.cons rfl rfl rfl (XS.mulN rfl rfl (Nat.lt_of_le_of_lt hmm (by decide))) ?_
              refine DC.cons rfl rfl rfl (XS.subI rfl rfl (bound1 (Nat.mod_lt _ (by decide)) hmm)) ?_
              refine DC.cons rfl rfl rfl (XS.move rfl) ?_
              refine DC.cons rfl rfl rfl (XS.subI rfl rfl (bound2 (Nat.mod_lt _ (by decide)) hmm hc)) ?_
              refine DC.cons rfl rfl rfl (XS.assign rfl) ?_
              refine DC.done (by kernel_rfl) ?_
              refine AO.nil ?_
              refine AW.seq ?_
              refine AW.region ?_
              refine AO.xs rfl rfl rfl (XS.move rfl) ?_
              refine AO.xs rfl rfl rfl (XS.move rfl) ?_
              refine AO.xs rfl rfl rfl (XS.move rfl) ?_
              refine AO.xs rfl rfl rfl (XS.addN rfl rfl (by omega)) ?_
              refine AO.xs rfl rfl rfl (XS.move rfl) ?_
              refine AO.xs rfl rfl rfl ((XS.mask24 rfl rfl).toI e24) ?_
              refine AO.xs rfl rfl rfl (XS.indexR1 rfl rfl (el rfl) (by omega)) ?_
              refine AO.storeL rfl rfl rfl (sz rfl) rfl (by omega) (setd_set (by decide) (by omega) E24_lt) rfl ?_
              refine AO.nil ?_
              refine AW.region ?_
              refine AO.xs rfl rfl rfl (XS.move rfl) ?_
              refine AO.xs rfl rfl rfl (XS.shrZ rfl rfl) ?_
              refine AO.xs rfl rfl rfl ((XS.negI rfl (bound3 (Nat.mod_lt _ (by decide)) hmm hc)).toI (c24 (Nat.mod_lt _ (by decide)))) ?_
              refine AO.xs rfl rfl rfl (XS.assign rfl) ?_
              refine AO.nil ?_
              refine AW.region ?_
              refine AO.xs rfl rfl rfl (XS.move rfl) ?_
              refine AO.xs rfl rfl rfl (XS.addN (n := 1) rfl rfl (by omega)) ?_
              refine AO.xs rfl rfl rfl (XS.assign rfl) ?_
              refine AO.nil ?_
              have hM2 := MS.next (by decide) hqB hM E24_lt (s24 (Nat.mod_lt _ (by decide)))
              exact ⟨(i + 1, _, _), ⟨by omega, hM2⟩, (by dsimp only; omega), ⟨rfl, rfl, trivial⟩, ⟨⟨_, rfl, rfl⟩, ⟨_, rfl, rfl⟩, ⟨_, rfl, rfl⟩, ⟨_, rfl, rfl⟩, ⟨_, rfl, rfl⟩, ⟨_, rfl, rfl⟩, ⟨_, rfl, rfl⟩, ⟨_, rfl, rfl⟩, ⟨_, rfl, rfl⟩, ⟨_, rfl, rfl⟩, ⟨_, rfl, rfl⟩, ⟨_, rfl, rfl⟩, ⟨_, rfl, rfl⟩, ⟨_, rfl, rfl⟩, ⟨_, rfl, rfl⟩, ⟨_, rfl, rfl⟩, ⟨_, rfl, rfl⟩, ⟨_, rfl, rfl⟩, ⟨_, rfl, rfl⟩, ⟨_, rfl, rfl⟩, ⟨_, rfl, rfl⟩, ⟨_, rfl, rfl⟩, ⟨_, rfl, rfl⟩, ⟨_, rfl, rfl⟩, ⟨_, rfl, rfl⟩, ⟨_, rfl, rfl⟩, ⟨_, rfl, rfl⟩, ⟨_, rfl, rfl⟩, ⟨_, rfl, rfl⟩, ⟨_, rfl, rfl⟩, ⟨_, rfl, rfl⟩, ⟨_, rfl, rfl⟩, ⟨_, rfl, rfl⟩, ⟨_, rfl, rfl⟩, ⟨_, rfl, rfl⟩, ⟨_, rfl, rfl⟩, ⟨_, rfl, rfl⟩, ⟨_, rfl, rfl⟩, ⟨_, rfl, rfl⟩, ⟨_, rfl, rfl⟩, ⟨_, rfl, rfl⟩, trivial⟩, rfl⟩
            · skip
              replace hb10 := of_decide_eq_false hb10
              obtain rfl : i = m + 2 := by omega
              refine AW.exit ?_
              refine AW.seq ?_
              refine AW.region ?_
              refine AO.xs rfl rfl rfl (XS.move rfl) ?_
              refine AO.xs rfl rfl rfl (XS.move rfl) ?_
              refine AO.xs rfl rfl rfl (XS.move rfl) ?_
              refine AO.xs rfl rfl rfl ((XS.addN rfl rfl (by omega)).toI (congrArg Nat.cast (show j + (m + 2) = m + 2 + j by omega))) ?_
              refine AO.xs rfl rfl rfl (XS.indexR1 rfl rfl (el rfl) (by omega)) ?_
              refine AO.xs rfl rfl rfl ((XS.loadL rfl (on rfl) rfl (by omega)).toI (congrArg Nat.cast (congrArg (fun z => z % 16777216) hM.up))) ?_
              refine AO.xs rfl rfl rfl (XS.move rfl) ?_
              refine AO.xs rfl rfl rfl (XS.subI rfl rfl (bound4 (Nat.mod_lt _ (by decide)) hc)) ?_
              refine AO.xs rfl rfl rfl (XS.assign rfl) ?_
              refine AO.nil ?_
              refine AW.seq ?_
              refine AW.region ?_
              refine AO.xs rfl rfl rfl (XS.move rfl) ?_
              refine AO.xs rfl rfl rfl (XS.move rfl) ?_
              refine AO.xs rfl rfl rfl (XS.move rfl) ?_
              refine AO.xs rfl rfl rfl ((XS.addN rfl rfl (by omega)).toI (congrArg Nat.cast (show j + (m + 2) = m + 2 + j by omega))) ?_
              refine AO.xs rfl rfl rfl (XS.move rfl) ?_
              refine AO.xs rfl rfl rfl ((XS.mask24 rfl rfl).toI t24) ?_
              refine AO.xs rfl rfl rfl (XS.indexR1 rfl rfl (el rfl) (by omega)) ?_
              refine AO.storeL rfl rfl rfl (sz rfl) rfl (by omega) (setd_set (by decide) (by omega) T24_lt) rfl ?_
              refine AO.nil ?_
              refine AW.cut [4, 5, 6, 11, 12, 13, 15, 16, 17, 21, 23, 101, 102, 105, 106, 107, 108, 109, 110, 111, 112, 113, 114, 115, 116, 117, 118, 119, 120, 121, 122, 123, 124, 125, 126, 127, 128, 129, 130, 131, 132, 133, 167, 168, 169, 197, 198, 199, 200, 201, 202, 203, 204, 205, 206, 207, 208, 209, 210, 211] (fun (_ : Unit) => [(18, .d (intD ((U / 16777216 ^ j / (b * 2 ^ s) : Nat) : Int)))]) (fun _ => [nkD .i64 (fx 16777216 (nl 16777216 a + 1) (U - U / 16777216 ^ j / (b * 2 ^ s) * (b * 2 ^ s) * 16777216 ^ j)), nkD .i64 (fx 16777216 (D + 1) Q)]) (fun _ => True) ?_ ?_
              · skip
                refine AW.seq ?_
                refine AW.region ?_
                refine AO.xs rfl rfl rfl (XS.move rfl) ?_
                refine AO.xs rfl rfl rfl (XS.int rfl rfl rfl) ?_
                refine AO.nil ?_
                refine AW.cond rfl (fun hb11 => ?_) (fun hb11 => ?_)
                · skip
                  replace hb11 := of_decide_eq_true hb11
                  obtain ⟨l1, l2⟩ := MS.last (o := 1) (by decide) hM n1 T24_lt (t24_1 (Nat.mod_lt _ (by decide)) hc hb11)
                  obtain ⟨W2, hW2⟩ : ∃ W2, W2 = setd 16777216 W (m + 2 + j) (T24 (U / 16777216 ^ (m + 2 + j) % 16777216) c) := ⟨_, rfl⟩
                  rw [← hW2] at l1
                  rw [← hW2, Nat.div_eq_of_lt hUB] at l2
                  have hW2B := lt_of_div0 (Nat.pow_pos (by decide)) l2
                  refine AW.setH (congrArg (fun z => [nkD .i64 (fx _ _ z), _]) (hW2.symm)) ?_
                  obtain ⟨u1, u2, u3, u4⟩ := MS.over (by decide) hV0 g2 hW2B l1
                  refine AW.seq ?_
                  refine AW.region ?_
                  refine AO.xs rfl rfl rfl (XS.move rfl) ?_
                  refine AO.xs rfl rfl rfl (XS.subN (n := 1) rfl rfl ⟨by rw [u1]; exact Nat.succ_le_succ (Nat.zero_le _), by omega⟩) ?_
                  refine AO.tell 215 rfl (intEq (congrArg Nat.cast (show q - 1 = U / 16777216 ^ j / (b * 2 ^ s) by rw [u1]; rfl))) ?_
                  refine AO.xs rfl rfl rfl (XS.assign rfl) ?_
                  refine AO.nil ?_
                  refine AW.seq ?_
                  refine AW.region ?_
                  refine AO.xs rfl rfl rfl (XS.assign rfl) ?_
                  refine AO.nil ?_
                  refine AW.seq ?_
                  refine AW.seq ?_
                  refine AW.region ?_
                  refine AO.xs rfl rfl rfl (XS.assign rfl) ?_
                  refine AO.nil ?_
                  refine AW.block ?_
                  refine AW.loop (α := Nat × Nat × Nat) [4, 5, 6, 11, 12, 13, 15, 16, 17, 18, 20, 21, 23, 101, 102, 105, 106, 107, 108, 109, 110, 111, 112, 113, 114, 115, 116, 117, 118, 119, 120, 121, 122, 123, 124, 125, 126, 127, 128, 129, 130, 131, 132, 133, 167, 168, 169, 197, 198, 199, 200, 201, 202, 203, 204, 205, 206, 207, 208, 209, 210, 211, 212, 213, 214, 215] (fun ((i, W3, c3) : Nat × Nat × Nat) => [(24, .d (intD (c3 : Int))), (25, .d (intD (i : Int)))]) (fun ((i, W3, c3) : Nat × Nat × Nat) => [nkD .i64 (fx 16777216 (nl 16777216 a + 1) W3), nkD .i64 (fx 16777216 (D + 1) Q)]) (fun ((i, W3, c3) : Nat × Nat × Nat) => i ≤ m + 2 ∧ AB 16777216 (b * 2 ^ s) j W2 i W3 c3) (fun ((i, W3, c3) : Nat × Nat × Nat) => m + 2 - i) ((0, W2, 0)) ⟨Nat.zero_le _, AB.start⟩ ⟨rfl, rfl, trivial⟩ ⟨⟨_, rfl, rfl⟩, ⟨_, rfl, rfl⟩, ⟨_, rfl, rfl⟩, ⟨_, rfl, rfl⟩, ⟨_, rfl, rfl⟩, ⟨_, rfl, rfl⟩, ⟨_, rfl, rfl⟩, ⟨_, rfl, rfl⟩, ⟨_, rfl, rfl⟩, ⟨_, rfl, rfl⟩, ⟨_, rfl, rfl⟩, ⟨_, rfl, rfl⟩, ⟨_, rfl, rfl⟩, ⟨_, rfl, rfl⟩, ⟨_, rfl, rfl⟩, ⟨_, rfl, rfl⟩, ⟨_, rfl, rfl⟩, ⟨_, rfl, rfl⟩, ⟨_, rfl, rfl⟩, ⟨_, rfl, rfl⟩, ⟨_, rfl, rfl⟩, ⟨_, rfl, rfl⟩, ⟨_, rfl, rfl⟩, ⟨_, rfl, rfl⟩, ⟨_, rfl, rfl⟩, ⟨_, rfl, rfl⟩, ⟨_, rfl, rfl⟩, ⟨_, rfl, rfl⟩, ⟨_, rfl, rfl⟩, ⟨_, rfl, rfl⟩, ⟨_, rfl, rfl⟩, ⟨_, rfl, rfl⟩, ⟨_, rfl, rfl⟩, ⟨_, rfl, rfl⟩, ⟨_, rfl, rfl⟩, ⟨_, rfl, rfl⟩, ⟨_, rfl, rfl⟩, ⟨_, rfl, rfl⟩, ⟨_, rfl, rfl⟩, ⟨_, rfl, rfl⟩, ⟨_, rfl, rfl⟩, ⟨_, rfl, rfl⟩, ⟨_, rfl, rfl⟩, ⟨_, rfl, rfl⟩, ⟨_, rfl, rfl⟩, ⟨_, rfl, rfl⟩, ⟨_, rfl, rfl⟩, ⟨_, rfl, rfl⟩, ⟨_, rfl, rfl⟩, ⟨_, rfl, rfl⟩, ⟨_, rfl, rfl⟩, ⟨_, rfl, rfl⟩, ⟨_, rfl, rfl⟩, ⟨_, rfl, rfl⟩, ⟨_, rfl, rfl⟩, ⟨_, rfl, rfl⟩, ⟨_, rfl, rfl⟩, ⟨_, rfl, rfl⟩, ⟨_, rfl, rfl⟩, ⟨_, rfl, rfl⟩, ⟨_, rfl, rfl⟩, ⟨_, rfl, rfl⟩, ⟨_, rfl, rfl⟩, ⟨_, rfl, rfl⟩, ⟨_, rfl, rfl⟩, ⟨_, rfl, rfl⟩, trivial⟩ rfl ?_
                  intro ⟨i, W3, c3⟩ ⟨hi, hA⟩
                  have hc3 := hA.car
                  refine AW.seq ?_
                  refine AW.seq ?_
                  refine AW.region ?_
                  refine AO.xs rfl rfl rfl (XS.move rfl) ?_
                  refine AO.xs rfl rfl rfl (XS.move rfl) ?_
                  refine AO.xs rfl rfl rfl (XS.int rfl rfl rfl) ?_
                  refine AO.nil ?_
                  refine AW.cond rfl (fun hb12 => ?_) (fun hb12 => ?_)
                  · skip
                    replace hb12 := of_decide_eq_true hb12
                    refine AW.skip ?_
                    refine AW.seq ?_
                    refine AW.block ?_
                    refine AW.seq ?_
                    refine AW.drawn mix ?_
                    refine DC.cons rfl rfl rfl (XS.move rfl) ?_
                    refine DC.cons rfl rfl rfl (XS.move rfl) ?_
                    refine DC.cons rfl rfl rfl (XS.move rfl) ?_
                    refine DC.cons rfl rfl rfl (XS.addN rfl rfl (by omega)) ?_
                    refine DC.cons rfl rfl rfl (XS.indexR1 rfl rfl (el rfl) (by omega)) ?_
                    refine DC.cons rfl rfl rfl (XS.loadL rfl (on rfl) rfl (by omega)) ?_
                    refine DC.cons rfl rfl rfl (XS.move rfl) ?_
                    refine DC.cons rfl rfl rfl (XS.move rfl) ?_
                    refine DC.cons rfl rfl rfl (XS.indexL rfl rfl (el rfl) (by omega)) ?_
                    refine DC.cons rfl rfl rfl (XS.loadE rfl (on rfl) rfl) ?_
                    refine DC.cons rfl rfl rfl (XS.addN rfl rfl (by omega)) ?_
                    refine DC.cons rfl rfl rfl (XS.move rfl) ?_
                    refine DC.cons rfl rfl rfl (XS.addN rfl rfl (by omega)) ?_
                    refine DC.cons rfl rfl rfl (XS.assign rfl) ?_
                    refine DC.done (by kernel_rfl) ?_
                    refine AO.nil ?_
                    refine AW.seq ?_
                    refine AW.region ?_
                    refine AO.xs rfl rfl rfl (XS.move rfl) ?_
                    refine AO.xs rfl rfl rfl (XS.move rfl) ?_
                    refine AO.xs rfl rfl rfl (XS.move rfl) ?_
                    refine AO.xs rfl rfl rfl (XS.addN rfl rfl (by omega)) ?_
                    refine AO.xs rfl rfl rfl (XS.move rfl) ?_
                    refine AO.xs rfl rfl rfl (XS.maskN rfl rfl) ?_
                    refine AO.xs rfl rfl rfl (XS.indexR1 rfl rfl (el rfl) (by omega)) ?_
                    refine AO.storeL rfl rfl rfl (sz rfl) rfl (by omega) (setd_set (by decide) (by omega) (Nat.mod_lt _ (by decide))) rfl ?_
                    refine AO.nil ?_
                    refine AW.region ?_
                    refine AO.xs rfl rfl rfl (XS.move rfl) ?_
                    refine AO.xs rfl rfl rfl (XS.shrI (n := 24) rfl rfl (by omega)) ?_
                    refine AO.xs rfl rfl rfl (XS.assign rfl) ?_
                    refine AO.nil ?_
                    refine AW.region ?_
                    refine AO.xs rfl rfl rfl (XS.move rfl) ?_
                    refine AO.xs rfl rfl rfl (XS.addN (n := 1) rfl rfl (by omega)) ?_
                    refine AO.xs rfl rfl rfl (XS.assign rfl) ?_
                    refine AO.nil ?_
                    have hA2 := AB.next (by decide) hA (Nat.mod_lt _ (by decide)) (Nat.mod_add_div' _ _)
                    exact ⟨(i + 1, _, _), ⟨by omega, hA2⟩, (by dsimp only; omega), ⟨rfl, rfl, trivial⟩, ⟨⟨_, rfl, rfl⟩, ⟨_, rfl, rfl⟩, ⟨_, rfl, rfl⟩, ⟨_, rfl, rfl⟩, ⟨_, rfl, rfl⟩, ⟨_, rfl, rfl⟩, ⟨_, rfl, rfl⟩, ⟨_, rfl, rfl⟩, ⟨_, rfl, rfl⟩, ⟨_, rfl, rfl⟩, ⟨_, rfl, rfl⟩, ⟨_, rfl, rfl⟩, ⟨_, rfl, rfl⟩, ⟨_, rfl, rfl⟩, ⟨_, rfl, rfl⟩, ⟨_, rfl, rfl⟩, ⟨_, rfl, rfl⟩, ⟨_, rfl, rfl⟩, ⟨_, rfl, rfl⟩, ⟨_, rfl, rfl⟩, ⟨_, rfl, rfl⟩, ⟨_, rfl, rfl⟩, ⟨_, rfl, rfl⟩, ⟨_, rfl, rfl⟩, ⟨_, rfl, rfl⟩, ⟨_, rfl, rfl⟩, ⟨_, rfl, rfl⟩, ⟨_, rfl, rfl⟩, ⟨_, rfl, rfl⟩, ⟨_, rfl, rfl⟩, ⟨_, rfl, rfl⟩, ⟨_, rfl, rfl⟩, ⟨_, rfl, rfl⟩, ⟨_, rfl, rfl⟩, ⟨_, rfl, rfl⟩, ⟨_, rfl, rfl⟩, ⟨_, rfl, rfl⟩, ⟨_, rfl, rfl⟩, ⟨_, rfl, rfl⟩, ⟨_, rfl, rfl⟩, ⟨_, rfl, rfl⟩, ⟨_, rfl, rfl⟩, ⟨_, rfl, rfl⟩, ⟨_, rfl, rfl⟩, ⟨_, rfl, rfl⟩, ⟨_, rfl, rfl⟩, ⟨_, rfl, rfl⟩, ⟨_, rfl, rfl⟩, ⟨_, rfl, rfl⟩, ⟨_, rfl, rfl⟩, ⟨_, rfl, rfl⟩, ⟨_, rfl, rfl⟩, ⟨_, rfl, rfl⟩, ⟨_, rfl, rfl⟩, ⟨_, rfl, rfl⟩, ⟨_, rfl, rfl⟩, ⟨_, rfl, rfl⟩, ⟨_, rfl, rfl⟩, ⟨_, rfl, rfl⟩, ⟨_, rfl, rfl⟩, ⟨_, rfl, rfl⟩, ⟨_, rfl, rfl⟩, ⟨_, rfl, rfl⟩, ⟨_, rfl, rfl⟩, ⟨_, rfl, rfl⟩, ⟨_, rfl, rfl⟩, trivial⟩, rfl⟩
                  · skip
                    replace hb12 := of_decide_eq_false hb12
                    obtain rfl : i = m + 2 := by omega
                    refine AW.exit ?_
                    refine AW.region ?_
                    refine AO.xs rfl rfl rfl (XS.move rfl) ?_
                    refine AO.xs rfl rfl rfl (XS.move rfl) ?_
                    refine AO.xs rfl rfl rfl (XS.move rfl) ?_
                    refine AO.xs rfl rfl rfl ((XS.addN rfl rfl (by omega)).toI (congrArg Nat.cast (show j + (m + 2) = m + 2 + j by omega))) ?_
                    refine AO.xs rfl rfl rfl (XS.move rfl) ?_
                    refine AO.xs rfl rfl rfl (XS.move rfl) ?_
                    refine AO.xs rfl rfl rfl (XS.move rfl) ?_
                    refine AO.xs rfl rfl rfl ((XS.addN rfl rfl (by omega)).toI (congrArg Nat.cast (show j + (m + 2) = m + 2 + j by omega))) ?_
                    refine AO.xs rfl rfl rfl (XS.indexR1 rfl rfl (el rfl) (by omega)) ?_
                    refine AO.xs rfl rfl rfl (XS.loadL rfl (on rfl) rfl (by omega)) ?_
                    refine AO.xs rfl rfl rfl (XS.move rfl) ?_
                    refine AO.xs rfl rfl rfl (XS.addN rfl rfl (by omega)) ?_
                    refine AO.xs rfl rfl rfl (XS.maskN rfl rfl) ?_
                    refine AO.xs rfl rfl rfl (XS.indexR1 rfl rfl (el rfl) (by omega)) ?_
                    refine AO.storeL rfl rfl rfl (sz rfl) rfl (by omega) (setd_set (by decide) (by omega) (Nat.mod_lt _ (by decide))) rfl ?_
                    refine AO.nil ?_
                    exact ⟨(), trivial, ⟨rfl, trivial⟩, ⟨⟨_, rfl, rfl⟩, ⟨_, rfl, rfl⟩, ⟨_, rfl, rfl⟩, ⟨_, rfl, rfl⟩, ⟨_, rfl, rfl⟩, ⟨_, rfl, rfl⟩, ⟨_, rfl, rfl⟩, ⟨_, rfl, rfl⟩, ⟨_, rfl, rfl⟩, ⟨_, rfl, rfl⟩, ⟨_, rfl, rfl⟩, ⟨_, rfl, rfl⟩, ⟨_, rfl, rfl⟩, ⟨_, rfl, rfl⟩, ⟨_, rfl, rfl⟩, ⟨_, rfl, rfl⟩, ⟨_, rfl, rfl⟩, ⟨_, rfl, rfl⟩, ⟨_, rfl, rfl⟩, ⟨_, rfl, rfl⟩, ⟨_, rfl, rfl⟩, ⟨_, rfl, rfl⟩, ⟨_, rfl, rfl⟩, ⟨_, rfl, rfl⟩, ⟨_, rfl, rfl⟩, ⟨_, rfl, rfl⟩, ⟨_, rfl, rfl⟩, ⟨_, rfl, rfl⟩, ⟨_, rfl, rfl⟩, ⟨_, rfl, rfl⟩, ⟨_, rfl, rfl⟩, ⟨_, rfl, rfl⟩, ⟨_, rfl, rfl⟩, ⟨_, rfl, rfl⟩, ⟨_, rfl, rfl⟩, ⟨_, rfl, rfl⟩, ⟨_, rfl, rfl⟩, ⟨_, rfl, rfl⟩, ⟨_, rfl, rfl⟩, ⟨_, rfl, rfl⟩, ⟨_, rfl, rfl⟩, ⟨_, rfl, rfl⟩, ⟨_, rfl, rfl⟩, ⟨_, rfl, rfl⟩, ⟨_, rfl, rfl⟩, ⟨_, rfl, rfl⟩, ⟨_, rfl, rfl⟩, ⟨_, rfl, rfl⟩, ⟨_, rfl, rfl⟩, ⟨_, rfl, rfl⟩, ⟨_, rfl, rfl⟩, ⟨_, rfl, rfl⟩, ⟨_, rfl, rfl⟩, ⟨_, rfl, rfl⟩, ⟨_, rfl, rfl⟩, ⟨_, rfl, rfl⟩, ⟨_, rfl, rfl⟩, ⟨_, rfl, rfl⟩, ⟨_, rfl, rfl⟩, ⟨_, rfl, rfl⟩, trivial⟩, (congrArg (fun z => [nkD .i64 (fx _ _ z), _]) (AB.last (by decide) hA n1 u4 hW2B u2 rfl))⟩
                · skip
                  replace hb11 := of_decide_eq_false hb11
                  obtain ⟨l1, l2⟩ := MS.last (o := 0) (by decide) hM n1 T24_lt (t24_0 (Nat.mod_lt _ (by decide)) hb11)
                  obtain ⟨W2, hW2⟩ : ∃ W2, W2 = setd 16777216 W (m + 2 + j) (T24 (U / 16777216 ^ (m + 2 + j) % 16777216) c) := ⟨_, rfl⟩
                  rw [← hW2] at l1
                  rw [← hW2, Nat.div_eq_of_lt hUB] at l2
                  have hW2B := lt_of_div0 (Nat.pow_pos (by decide)) l2
                  refine AW.setH (congrArg (fun z => [nkD .i64 (fx _ _ z), _]) (hW2.symm)) ?_
                  obtain ⟨u1, u2⟩ := MS.right (by decide) hV0 g1 l1
                  refine AW.skip ?_
                  exact ⟨(), trivial, ⟨lk_D rfl (intEq (congrArg Nat.cast u1)), trivial⟩, ⟨⟨_, rfl, rfl⟩, ⟨_, rfl, rfl⟩, ⟨_, rfl, rfl⟩, ⟨_, rfl, rfl⟩, ⟨_, rfl, rfl⟩, ⟨_, rfl, rfl⟩, ⟨_, rfl, rfl⟩, ⟨_, rfl, rfl⟩, ⟨_, rfl, rfl⟩, ⟨_, rfl, rfl⟩, ⟨_, rfl, rfl⟩, ⟨_, rfl, rfl⟩, ⟨_, rfl, rfl⟩, ⟨_, rfl, rfl⟩, ⟨_, rfl, rfl⟩, ⟨_, rfl, rfl⟩, ⟨_, rfl, rfl⟩, ⟨_, rfl, rfl⟩, ⟨_, rfl, rfl⟩, ⟨_, rfl, rfl⟩, ⟨_, rfl, rfl⟩, ⟨_, rfl, rfl⟩, ⟨_, rfl, rfl⟩, ⟨_, rfl, rfl⟩, ⟨_, rfl, rfl⟩, ⟨_, rfl, rfl⟩, ⟨_, rfl, rfl⟩, ⟨_, rfl, rfl⟩, ⟨_, rfl, rfl⟩, ⟨_, rfl, rfl⟩, ⟨_, rfl, rfl⟩, ⟨_, rfl, rfl⟩, ⟨_, rfl, rfl⟩, ⟨_, rfl, rfl⟩, ⟨_, rfl, rfl⟩, ⟨_, rfl, rfl⟩, ⟨_, rfl, rfl⟩, ⟨_, rfl, rfl⟩, ⟨_, rfl, rfl⟩, ⟨_, rfl, rfl⟩, ⟨_, rfl, rfl⟩, ⟨_, rfl, rfl⟩, ⟨_, rfl, rfl⟩, ⟨_, rfl, rfl⟩, ⟨_, rfl, rfl⟩, ⟨_, rfl, rfl⟩, ⟨_, rfl, rfl⟩, ⟨_, rfl, rfl⟩, ⟨_, rfl, rfl⟩, ⟨_, rfl, rfl⟩, ⟨_, rfl, rfl⟩, ⟨_, rfl, rfl⟩, ⟨_, rfl, rfl⟩, ⟨_, rfl, rfl⟩, ⟨_, rfl, rfl⟩, ⟨_, rfl, rfl⟩, ⟨_, rfl, rfl⟩, ⟨_, rfl, rfl⟩, ⟨_, rfl, rfl⟩, ⟨_, rfl, rfl⟩, trivial⟩, (congrArg (fun z => [nkD .i64 (fx _ _ z), _]) (right_row (u1 ▸ l1)))⟩
              · skip
                intro _ _
                obtain ⟨z1, z2⟩ := rest_ok (U := U) (p := 16777216 ^ j) (V := b * 2 ^ s) (Nat.pow_pos (by decide)) hV0
                obtain ⟨y1, y2⟩ := DV.next (by decide) hV rfl (Nat.sub_add_cancel z1) z2
                have hqq := quo_digit (by decide) hV0 hU
                refine AW.region ?_
                refine AO.xs rfl rfl rfl (XS.move rfl) ?_
                refine AO.xs rfl rfl rfl (XS.move rfl) ?_
                refine AO.xs rfl rfl rfl (XS.move rfl) ?_
                refine AO.xs rfl rfl rfl (XS.indexR1 rfl rfl (el rfl) (by omega)) ?_
                refine AO.storeL rfl rfl rfl (sz rfl) rfl (by omega) (fx_put (by decide) (by omega) hqq y2) rfl ?_
                refine AO.nil ?_
                refine AW.region ?_
                refine AO.xs rfl rfl rfl (XS.move rfl) ?_
                refine AO.xs rfl rfl rfl (XS.subI rfl rfl (by omega)) ?_
                refine AO.xs rfl rfl rfl (XS.assign rfl) ?_
                refine AO.nil ?_
                exact ⟨(j, _, _), ⟨by omega, y1⟩, (by dsimp only; omega), ⟨rfl, trivial⟩, ⟨⟨_, rfl, rfl⟩, ⟨_, rfl, rfl⟩, ⟨_, rfl, rfl⟩, ⟨_, rfl, rfl⟩, ⟨_, rfl, rfl⟩, ⟨_, rfl, rfl⟩, ⟨_, rfl, rfl⟩, trivial⟩, rfl⟩
        · skip
          replace hb5 := of_decide_eq_false hb5
          obtain rfl : J = 0 := by omega
          obtain ⟨e1, e2⟩ := DV.done hb0 hV
          subst e1
          have hU0 : U < 16777216 ^ (m + 2) := by have h := hV.low; rw [Nat.pow_zero, Nat.mul_one] at h; exact Nat.lt_trans h n1
          have hUs : U / 2 ^ s < 16777216 ^ (m + 2) := Nat.lt_of_le_of_lt (Nat.div_le_self _ _) hU0
          refine AW.exit ?_
          refine AW.seq ?_
          refine AW.region ?_
          refine AO.xs rfl rfl rfl (XS.move rfl) ?_
          refine AO.makeC (16777216) rfl rfl rfl rfl (ap rfl) (Nat.le_refl _) (by omega) ?_
          refine AO.xs rfl rfl rfl (XS.assign rfl) ?_
          refine AO.nil ?_
          refine AW.seq ?_
          refine AW.seq ?_
          refine AW.region ?_
          refine AO.xs rfl rfl rfl (XS.assign rfl) ?_
          refine AO.nil ?_
          refine AW.block ?_
          refine AW.loop [4, 5, 6, 11, 12, 15, 27] (fun i => [(28, .d (intD ((i : Nat) : Int)))]) (fun i => [nkD .i64 (fx 16777216 (nl 16777216 a + 1) U), nkD .i64 (fx 16777216 (D + 1) (a / b)), nkD .i64 (fx 16777216 (m + 2) (U / 2 ^ s % 16777216 ^ i))]) (fun i => i ≤ m + 2) (fun i => m + 2 - i) (0) (Nat.zero_le _) ⟨rfl, trivial⟩ ⟨⟨_, rfl, rfl⟩, ⟨_, rfl, rfl⟩, ⟨_, rfl, rfl⟩, ⟨_, rfl, rfl⟩, ⟨_, rfl, rfl⟩, ⟨_, rfl, rfl⟩, ⟨_, rfl, rfl⟩, trivial⟩ (congrArg (fun z => [_, _, nkD .i64 (fx _ _ z)]) (show 0 = U / 2 ^ s % 16777216 ^ 0 by rw [Nat.pow_zero, Nat.mod_one])) ?_
          intro i hi
          refine AW.seq ?_
          refine AW.seq ?_
          refine AW.region ?_
          refine AO.xs rfl rfl rfl (XS.move rfl) ?_
          refine AO.xs rfl rfl rfl (XS.move rfl) ?_
          refine AO.xs rfl rfl rfl (XS.int rfl rfl rfl) ?_
          refine AO.nil ?_
          refine AW.cond rfl (fun hb13 => ?_) (fun hb13 => ?_)
          · skip
            replace hb13 := of_decide_eq_true hb13
            have hyb : U / 16777216 ^ (i + 1) % 16777216 < 16777216 := (Nat.mod_lt _ (by decide))
            have hxb : U / 16777216 ^ i % 16777216 < 16777216 := (Nat.mod_lt _ (by decide))
            refine AW.skip ?_
            refine AW.seq ?_
            refine AW.block ?_
            refine AW.drawn mix ?_
            refine DC.cons rfl rfl rfl (XS.move rfl) ?_
            refine DC.cons rfl rfl rfl (XS.move rfl) ?_
            refine DC.cons rfl rfl rfl (XS.move rfl) ?_
            refine DC.cons rfl rfl rfl (XS.move rfl) ?_
            refine DC.cons rfl rfl rfl (XS.indexR1 rfl rfl (el rfl) (by omega)) ?_
            refine DC.cons rfl rfl rfl (XS.loadL rfl (on rfl) rfl (by omega)) ?_
            refine DC.cons rfl rfl rfl (XS.move rfl) ?_
            refine DC.cons rfl rfl rfl (XS.shrI rfl rfl (by omega)) ?_
            refine DC.cons rfl rfl rfl (XS.move rfl) ?_
            refine DC.cons rfl rfl rfl (XS.move rfl) ?_
            refine DC.cons rfl rfl rfl (XS.addN (n := 1) rfl rfl (by omega)) ?_
            refine DC.cons rfl rfl rfl (XS.indexR1 rfl rfl (el rfl) (by omega)) ?_
            refine DC.cons rfl rfl rfl (XS.loadL rfl (on rfl) rfl (by omega)) ?_
            refine DC.cons rfl rfl rfl (XS.move rfl) ?_
            refine DC.cons rfl rfl rfl (XS.subU (m := 24) rfl rfl (by omega)) ?_
            refine DC.cons rfl rfl rfl (XS.shlI rfl rfl (by omega) (shl24 hyb)) ?_
            refine DC.cons rfl rfl rfl (XS.orI rfl rfl (div_small hxb) (shl24 hyb)) ?_
            refine DC.cons rfl rfl rfl (XS.maskN rfl rfl) ?_
            refine DC.cons rfl rfl rfl (XS.indexR1 rfl rfl (el rfl) (by omega)) ?_
            refine DC.done (by kernel_rfl) ?_
            refine AO.storeL rfl rfl rfl (sz rfl) rfl (by omega) (dn24_set hs23 (by omega)) rfl ?_
            refine AO.nil ?_
            refine AW.region ?_
            refine AO.xs rfl rfl rfl (XS.move rfl) ?_
            refine AO.xs rfl rfl rfl (XS.addN (n := 1) rfl rfl (by omega)) ?_
            refine AO.xs rfl rfl rfl (XS.assign rfl) ?_
            refine AO.nil ?_
            exact ⟨i + 1, (by omega), (by dsimp only; omega), ⟨rfl, trivial⟩, ⟨⟨_, rfl, rfl⟩, ⟨_, rfl, rfl⟩, ⟨_, rfl, rfl⟩, ⟨_, rfl, rfl⟩, ⟨_, rfl, rfl⟩, ⟨_, rfl, rfl⟩, ⟨_, rfl, rfl⟩, trivial⟩, rfl⟩
          · skip
            replace hb13 := of_decide_eq_false hb13
            obtain rfl : i = m + 2 := by omega
            refine AW.setH (congrArg (fun z => [_, _, nkD .i64 (fx _ _ z)]) (Nat.mod_eq_of_lt hUs)) ?_
            refine AW.exit ?_
            refine AW.seq ?_
            refine AW.region ?_
            refine AO.xs rfl rfl rfl (XS.move rfl) ?_
            refine AO.freezeL 287 rfl (Nat.zero_le _) rfl (fx_len _ _ _).symm ?_
            refine AO.xs rfl rfl rfl (XS.call rfl (by kernel_rfl) rfl (l02Trim_c (by omega) (quo_lt (by decide) haK hbl))) ?_
            refine AO.xs rfl rfl rfl (XS.move rfl) ?_
            refine AO.freezeL 289 rfl (Nat.zero_le _) rfl (fx_len _ _ _).symm ?_
            refine AO.xs rfl rfl rfl (XS.call rfl (by kernel_rfl) rfl (l02Trim_c (by omega) hUs)) ?_
            refine AO.xs rfl rfl rfl (XS.assign rfl) ?_
            refine AO.xs rfl rfl rfl (XS.assign rfl) ?_
            refine AO.nil ?_
            refine AW.ret ?_
            exact ⟨_, rfl, by rw [← e2]; rfl⟩

end Go.Proofs.Ytgafdhpagifpcaa.C
