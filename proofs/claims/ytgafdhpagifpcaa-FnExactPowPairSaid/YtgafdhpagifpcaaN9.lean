/-
  OWN WORK. The plain law: shifts of rows of digits. No program is in sight.
-/
import Derived.Test.YtgafdhpagifpcaaN8
namespace Go.Proofs.Ytgafdhpagifpcaa.Num
set_option linter.unusedVariables false

theorem two64 {s : Nat} (hs : s ≤ 64) : 18446744073709551616 = 2 ^ (64 - s) * 2 ^ s := by rw [← Nat.pow_add, show 64 - s + s = 64 by omega]
theorem shl_mod {y s : Nat} (hs : s ≤ 64) : y * 2 ^ s % 18446744073709551616 = y % 2 ^ (64 - s) * 2 ^ s := by
  conv => lhs; rw [two64 hs]
  rw [Nat.mul_mod_mul_right]
theorem or_shl {o y s : Nat} (ho : o < 2 ^ s) (hs : s ≤ 64) : o ||| (y * 2 ^ s % 18446744073709551616) = y * 2 ^ s % 18446744073709551616 + o := by
  rw [shl_mod hs, Nat.or_comm, or_add ho]
theorem shl_lt {o y s : Nat} (ho : o < 2 ^ s) (hs : s ≤ 64) : y * 2 ^ s % 18446744073709551616 + o < 18446744073709551616 := by
  rw [shl_mod hs]
  have h1 := Nat.mod_lt y (show 0 < 2 ^ (64 - s) from Nat.pow_pos (by decide))
  have h2 := Nat.mul_le_mul_right (2 ^ s) (Nat.succ_le_of_lt h1)
  rw [← two64 hs, Nat.succ_mul] at h2
  omega
/-! to the left -/
theorem up_old {a s i : Nat} (hs : s ≤ 63) : a % 18446744073709551616 ^ i * 2 ^ s / 18446744073709551616 ^ i % 18446744073709551616 < 2 ^ s := by
  have h := shl_part (a := a) (i := i) (s := s) (b := 18446744073709551616) (by decide) (Nat.le_trans (Nat.pow_le_pow_right (by decide) hs) (by decide))
  exact Nat.lt_of_le_of_lt (Nat.mod_le _ _) h
theorem up_set {a s i K : Nat} (hs : s ≤ 63) (hi : i + 1 < K) :
    (fx 18446744073709551616 K (setd 18446744073709551616 (a % 18446744073709551616 ^ i * 2 ^ s) i (a / 18446744073709551616 ^ i % 18446744073709551616 * 2 ^ s % 18446744073709551616 + a % 18446744073709551616 ^ i * 2 ^ s / 18446744073709551616 ^ i % 18446744073709551616))).set (i + 1)
      (a / 18446744073709551616 ^ i % 18446744073709551616 / 2 ^ (64 - s)) = fx 18446744073709551616 K (a % 18446744073709551616 ^ (i + 1) * 2 ^ s) := by
  have hold := up_old (a := a) (i := i) hs
  have hlt := shl_lt (y := a / 18446744073709551616 ^ i % 18446744073709551616) hold (by omega)
  have hq := setd_eq (b := 18446744073709551616) (n := a % 18446744073709551616 ^ i * 2 ^ s) (j := i) (x := a / 18446744073709551616 ^ i % 18446744073709551616 * 2 ^ s % 18446744073709551616 + a % 18446744073709551616 ^ i * 2 ^ s / 18446744073709551616 ^ i % 18446744073709551616)
  have hd := setd_div (b := 18446744073709551616) (n := a % 18446744073709551616 ^ i * 2 ^ s) (j := i) (by decide) hlt
  have hz : a % 18446744073709551616 ^ i * 2 ^ s / 18446744073709551616 ^ (i + 1) = 0 := by
    rw [Nat.pow_succ, ← Nat.div_div_eq_div_mul]
    refine Nat.div_eq_of_lt (Nat.lt_of_lt_of_le (shl_part (by decide) ?_) ?_)
    all_goals exact Nat.le_trans (Nat.pow_le_pow_right (by decide) hs) (by decide)
  rw [hz] at hd
  have hy : a / 18446744073709551616 ^ i % 18446744073709551616 < 18446744073709551616 := Nat.mod_lt _ (by decide)
  refine fx_set (by decide) hi (Nat.lt_of_le_of_lt (Nat.div_le_self _ _) hy) ?_
  rw [hd, Nat.zero_mod, Nat.zero_mul, Nat.add_zero, shl_next, shr_shl (by omega)]
  generalize setd 18446744073709551616 (a % 18446744073709551616 ^ i * 2 ^ s) i _ = n at *
  generalize a / 18446744073709551616 ^ i % 18446744073709551616 * 2 ^ s = m at *
  generalize a % 18446744073709551616 ^ i * 2 ^ s / 18446744073709551616 ^ i % 18446744073709551616 = o at *
  generalize a % 18446744073709551616 ^ i * 2 ^ s = V at *
  rw [Nat.pow_succ]
  generalize 18446744073709551616 ^ i = p at *
  have h1 := Nat.div_add_mod m 18446744073709551616
  generalize m / 18446744073709551616 = mq at *
  generalize m % 18446744073709551616 = mr at *
  have h2 : m * p = 18446744073709551616 * mq * p + mr * p := by rw [← h1, Nat.add_mul]
  have h3 : mq * (p * 18446744073709551616) = 18446744073709551616 * mq * p := by grind
  have h4 : (mr + o) * p = mr * p + o * p := Nat.add_mul _ _ _
  omega
/-! to the right -/
def dn (b U s i : Nat) : Nat := U / b ^ i * b ^ i + U / 2 ^ s % b ^ i
theorem dn_zero {b U s : Nat} : dn b U s 0 = U := by simp [dn, Nat.mod_one]
theorem dn_all {b U s k : Nat} (h : U < b ^ k) : dn b U s k = U / 2 ^ s := by
  unfold dn
  rw [Nat.div_eq_of_lt h, Nat.zero_mul, Nat.zero_add, Nat.mod_eq_of_lt (Nat.lt_of_le_of_lt (Nat.div_le_self _ _) h)]
theorem dn_dig {b U s i : Nat} (hb : 0 < b) : dn b U s i / b ^ i = U / b ^ i := by
  unfold dn
  rw [Nat.mul_comm, Nat.mul_add_div (Nat.pow_pos hb), Nat.div_eq_of_lt (Nat.mod_lt _ (Nat.pow_pos hb)), Nat.add_zero]
theorem dn_set {b U s i k x : Nat} (hb : 0 < b) (hi : i < k) (hx : x = U / 2 ^ s / b ^ i % b) : (fx b k (dn b U s i)).set i x = fx b k (dn b U s (i + 1)) := by
  subst hx
  refine fx_set hb hi (Nat.mod_lt _ hb) ?_
  rw [dn_dig hb]
  unfold dn
  rw [mod_succ, div2 (V := U) (n := i), Nat.pow_succ]
  have h1 := div2 (V := U) (n := i) (b := b)
  rw [Nat.pow_succ] at h1
  have h2 : (U / (b ^ i * b) * b + U / b ^ i % b) % b = U / b ^ i % b := by rw [Nat.mul_comm, Nat.mul_add_mod, Nat.mod_mod]
  rw [h2]
  generalize U / (b ^ i * b) = u at *
  generalize U / b ^ i % b = d at *
  generalize U / 2 ^ s / b ^ i % b = e at *
  generalize U / 2 ^ s % b ^ i = l at *
  generalize b ^ i = p at *
  grind
theorem dn_digit {U s i : Nat} (hs : s ≤ 63) : U / 18446744073709551616 ^ (i + 1) % 18446744073709551616 * 2 ^ (64 - s) % 18446744073709551616 + U / 18446744073709551616 ^ i % 18446744073709551616 / 2 ^ s = U / 2 ^ s / 18446744073709551616 ^ i % 18446744073709551616 ∧
    U / 18446744073709551616 ^ i % 18446744073709551616 / 2 ^ s < 2 ^ (64 - s) := by
  have hp : 0 < 2 ^ s := Nat.pow_pos (by decide)
  have ho : U / 18446744073709551616 ^ i % 18446744073709551616 / 2 ^ s < 2 ^ (64 - s) := by
    rw [Nat.div_lt_iff_lt_mul hp, ← two64 (by omega)]; exact Nat.mod_lt _ (by decide)
  have hlt := shl_lt (y := U / 18446744073709551616 ^ (i + 1) % 18446744073709551616) (s := 64 - s) ho (by omega)
  refine ⟨?_, ho⟩
  have e1 : U / 2 ^ s / 18446744073709551616 ^ i = U / 18446744073709551616 ^ (i + 1) * 2 ^ (64 - s) + U / 18446744073709551616 ^ i % 18446744073709551616 / 2 ^ s := by
    have key : ∀ u d, (u * 18446744073709551616 + d) / 2 ^ s = u * 2 ^ (64 - s) + d / 2 ^ s := by
      intro u d
      have : u * 18446744073709551616 = 2 ^ s * (u * 2 ^ (64 - s)) := by
        conv => lhs; rw [two64 (show s ≤ 64 by omega)]
        rw [← Nat.mul_assoc, Nat.mul_comm]
      rw [this, Nat.mul_add_div hp]
    have h := key (U / 18446744073709551616 ^ (i + 1)) (U / 18446744073709551616 ^ i % 18446744073709551616)
    rw [← div2] at h
    rw [Nat.div_div_eq_div_mul, Nat.mul_comm, ← Nat.div_div_eq_div_mul]
    exact h
  have e2 : U / 18446744073709551616 ^ (i + 1) % 18446744073709551616 * 2 ^ (64 - s) % 18446744073709551616 = U / 18446744073709551616 ^ (i + 1) * 2 ^ (64 - s) % 18446744073709551616 := by
    rw [Nat.mul_mod, Nat.mod_mod, ← Nat.mul_mod]
  rw [e1]
  rw [e2] at hlt ⊢
  generalize U / 18446744073709551616 ^ (i + 1) * 2 ^ (64 - s) = m at *
  generalize U / 18446744073709551616 ^ i % 18446744073709551616 / 2 ^ s = o at *
  omega
theorem dn_two {b U s i k x y : Nat} (hb : 0 < b) (hi : i < k) (hx : x < b) (hy : y = U / 2 ^ s / b ^ i % b) : (fx b k (setd b (dn b U s i) i x)).set i y = fx b k (dn b U s (i + 1)) := by
  rw [← setd_set hb hi hx, List.set_set]; exact dn_set hb hi hy
theorem dn_one {U s i : Nat} : U / 18446744073709551616 ^ i % 18446744073709551616 / 2 ^ s < 18446744073709551616 := Nat.lt_of_le_of_lt (Nat.div_le_self _ _) (Nat.mod_lt _ (by decide))
theorem dn_end {U s i k : Nat} (hi : k ≤ i + 1) (hs : s ≤ 63) (hU : U < 18446744073709551616 ^ k) : U / 18446744073709551616 ^ i % 18446744073709551616 / 2 ^ s = U / 2 ^ s / 18446744073709551616 ^ i % 18446744073709551616 := by
  rw [← (dn_digit (U := U) (i := i) hs).1, Nat.div_eq_of_lt (Nat.lt_of_lt_of_le hU (Nat.pow_le_pow_right (by decide) hi))]
  simp
end Go.Proofs.Ytgafdhpagifpcaa.Num
