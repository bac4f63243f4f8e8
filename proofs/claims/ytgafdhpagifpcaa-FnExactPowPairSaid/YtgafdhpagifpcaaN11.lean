/-
  OWN WORK. The plain law: division of limbs of 24 bits, beside N8. No program is in sight.
-/
import Derived.Test.YtgafdhpagifpcaaN10
namespace Go.Proofs.Ytgafdhpagifpcaa.Num
set_option linter.unusedVariables false

theorem two24 {s : Nat} (hs : s ≤ 24) : 16777216 = 2 ^ (24 - s) * 2 ^ s := by rw [← Nat.pow_add, show 24 - s + s = 24 by omega]
theorem le24 {s : Nat} (hs : s ≤ 23) : 2 ^ s ≤ 8388608 := Nat.le_trans (Nat.pow_le_pow_right (by decide) hs) (by decide)
/-! to the left -/
theorem left_part {a s i : Nat} (hs : s ≤ 23) : a % 16777216 ^ i * 2 ^ s / 16777216 ^ i < 2 ^ s := shl_part (by decide) (Nat.le_trans (le24 hs) (by decide))
theorem left_t {a s i : Nat} (hs : s ≤ 23) : (a / 16777216 ^ i % 16777216 * 2 ^ s) ||| (a % 16777216 ^ i * 2 ^ s / 16777216 ^ i) = a % 16777216 ^ (i + 1) * 2 ^ s / 16777216 ^ i := by
  have hp : 0 < 16777216 ^ i := Nat.pow_pos (by decide)
  rw [or_add (left_part hs), shl_next, Nat.add_mul_div_right _ _ hp, Nat.add_comm]
theorem left_digit {a s i : Nat} : a % 16777216 ^ (i + 1) * 2 ^ s / 16777216 ^ i % 16777216 = a * 2 ^ s / 16777216 ^ i % 16777216 := by
  have h := Nat.div_add_mod a (16777216 ^ (i + 1))
  have hp : 0 < 16777216 ^ i := Nat.pow_pos (by decide)
  have e : a * 2 ^ s = a % 16777216 ^ (i + 1) * 2 ^ s + 16777216 * (a / 16777216 ^ (i + 1) * 2 ^ s) * 16777216 ^ i := by
    conv => lhs; rw [← h]
    rw [Nat.pow_succ 16777216 i]
    generalize a / (16777216 ^ i * 16777216) = x
    generalize a % (16777216 ^ i * 16777216) = y
    grind
  rw [e, Nat.add_mul_div_right _ _ hp, Nat.add_mul_mod_self_left]
theorem left_carry {a s i : Nat} : a % 16777216 ^ (i + 1) * 2 ^ s / 16777216 ^ i / 2 ^ 24 = a % 16777216 ^ (i + 1) * 2 ^ s / 16777216 ^ (i + 1) := by
  rw [Nat.div_div_eq_div_mul, show (2 : Nat) ^ 24 = 16777216 from rfl, ← Nat.pow_succ]
theorem left_top {a s : Nat} (hs : s ≤ 23) : a % 16777216 ^ nl 16777216 a * 2 ^ s / 16777216 ^ nl 16777216 a = a * 2 ^ s / 16777216 ^ nl 16777216 a % 16777216 := by
  have h := left_part (a := a) (i := nl 16777216 a) hs
  rw [Nat.mod_eq_of_lt (lt_nl (by decide) a)] at h ⊢
  exact (Nat.mod_eq_of_lt (Nat.lt_of_lt_of_le h (Nat.le_trans (le24 hs) (by decide)))).symm
theorem norm24 {b m s : Nat} (hnl : nl 16777216 b = m + 2) (hs : s ≤ 23) (h1 : b / 16777216 ^ (m + 1) % 16777216 * 2 ^ s < 16777216) (h2 : 8388608 ≤ b / 16777216 ^ (m + 1) % 16777216 * 2 ^ s) :
    b * 2 ^ s < 16777216 ^ (m + 2) ∧ 16777216 ≤ 2 * (b * 2 ^ s / 16777216 ^ (m + 1)) ∧ 16777216 ^ (m + 1) ≤ b * 2 ^ s ∧ b / 16777216 ^ (m + 1) < 16777216 := by
  have k1 := lt_nl (b := 16777216) (by decide) b
  have k2 := pow_le_of_nl (b := 16777216) (n := b) (by decide) (k := m + 1) (by omega)
  rw [hnl] at k1
  have hp : 0 < 16777216 ^ (m + 1) := Nat.pow_pos (by decide)
  have ht : b / 16777216 ^ (m + 1) < 16777216 := by
    rw [Nat.div_lt_iff_lt_mul hp, Nat.mul_comm, ← Nat.pow_succ]; exact k1
  rw [Nat.mod_eq_of_lt ht] at h1 h2
  have hq : 0 < 2 ^ s := Nat.pow_pos (by decide)
  have hm := Nat.div_add_mod b (16777216 ^ (m + 1))
  have hr := Nat.mod_lt b hp
  have hle : b / 16777216 ^ (m + 1) * 2 ^ s ≤ b * 2 ^ s / 16777216 ^ (m + 1) := by
    rw [Nat.le_div_iff_mul_le hp, Nat.mul_right_comm]
    exact Nat.mul_le_mul_right _ (Nat.div_mul_le_self _ _)
  refine ⟨?_, ?_, ?_, ht⟩
  · have h3 : b / 16777216 ^ (m + 1) + 1 ≤ 2 ^ (24 - s) := by
      have : b / 16777216 ^ (m + 1) < 2 ^ (24 - s) := by
        have e := two24 (s := s) (by omega)
        generalize b / 16777216 ^ (m + 1) = z at *
        rw [e] at h1
        exact Nat.lt_of_mul_lt_mul_right h1
      exact this
    have h4 : (b / 16777216 ^ (m + 1) + 1) * 16777216 ^ (m + 1) ≤ 2 ^ (24 - s) * 16777216 ^ (m + 1) := Nat.mul_le_mul_right _ h3
    have h5 : b < 2 ^ (24 - s) * 16777216 ^ (m + 1) := by
      rw [Nat.succ_mul, Nat.mul_comm (b / _)] at h4
      omega
    have h6 := Nat.mul_lt_mul_of_pos_right h5 hq
    have h7 : 2 ^ (24 - s) * 16777216 ^ (m + 1) * 2 ^ s = 16777216 ^ (m + 2) := by
      rw [Nat.mul_right_comm, ← two24 (by omega), Nat.pow_succ _ (m + 1), Nat.mul_comm]
    rw [h7] at h6; exact h6
  · generalize b * 2 ^ s / 16777216 ^ (m + 1) = z at *
    omega
  · exact Nat.le_trans k2 (Nat.le_mul_of_pos_right _ hq)
/-! one step of multiplying and taking away, with a sign -/
def E24 (d m C : Nat) : Nat := (((d : Int) - (m : Int) - (C : Int)) % 16777216).toNat
def C24 (d m C : Nat) : Nat := (-(((d : Int) - (m : Int) - (C : Int)) / 16777216)).toNat
theorem e24 {d m C : Nat} : ((d : Int) - (m : Int) - (C : Int)) % 16777216 = ((E24 d m C : Nat) : Int) := by unfold E24; omega
theorem c24 {d m C : Nat} (hd : d < 16777216) : -(((d : Int) - (m : Int) - (C : Int)) / 16777216) = ((C24 d m C : Nat) : Int) := by unfold C24; omega
theorem s24 {d m C : Nat} (hd : d < 16777216) : E24 d m C + (m + C) = d + C24 d m C * 16777216 := by unfold E24 C24; omega
theorem E24_lt {d m C : Nat} : E24 d m C < 16777216 := by unfold E24; omega
def T24 (d C : Nat) : Nat := (((d : Int) - (C : Int)) % 16777216).toNat
theorem t24 {d C : Nat} : ((d : Int) - (C : Int)) % 16777216 = ((T24 d C : Nat) : Int) := by unfold T24; omega
theorem T24_lt {d C : Nat} : T24 d C < 16777216 := by unfold T24; omega
theorem t24_1 {d C : Nat} (hd : d < 16777216) (hC : C < 16777216) (h : (d : Int) - (C : Int) < 0) : T24 d C + C = d + 1 * 16777216 := by unfold T24; omega
theorem t24_0 {d C : Nat} (hd : d < 16777216) (h : ¬ (d : Int) - (C : Int) < 0) : T24 d C + C = d + 0 * 16777216 := by unfold T24; omega
/-! to the right -/
theorem dn24 {U s i : Nat} (hs : s ≤ 23) : ((U / 16777216 ^ i % 16777216 / 2 ^ s) ||| (U / 16777216 ^ (i + 1) % 16777216 * 2 ^ (24 - s))) % 16777216 = U / 2 ^ s / 16777216 ^ i % 16777216 := by
  have hp : 0 < 2 ^ s := Nat.pow_pos (by decide)
  have ho : U / 16777216 ^ i % 16777216 / 2 ^ s < 2 ^ (24 - s) := by
    rw [Nat.div_lt_iff_lt_mul hp, ← two24 (by omega)]; exact Nat.mod_lt _ (by decide)
  rw [Nat.or_comm, or_add ho]
  have key : ∀ u d, (u * 16777216 + d) / 2 ^ s = u * 2 ^ (24 - s) + d / 2 ^ s := by
    intro u d
    have : u * 16777216 = 2 ^ s * (u * 2 ^ (24 - s)) := by
      conv => lhs; rw [two24 (show s ≤ 24 by omega)]
      rw [← Nat.mul_assoc, Nat.mul_comm]
    rw [this, Nat.mul_add_div hp]
  have h := key (U / 16777216 ^ (i + 1)) (U / 16777216 ^ i % 16777216)
  rw [← div2] at h
  rw [Nat.div_div_eq_div_mul U, Nat.mul_comm (2 ^ s), ← Nat.div_div_eq_div_mul U, h, Nat.add_mod, Nat.mul_mod, Nat.mod_mod, ← Nat.mul_mod, ← Nat.add_mod]
theorem dn24_set {U s i k : Nat} (hs : s ≤ 23) (hi : i < k) : (fx 16777216 k (U / 2 ^ s % 16777216 ^ i)).set i (((U / 16777216 ^ i % 16777216 / 2 ^ s) ||| (U / 16777216 ^ (i + 1) % 16777216 * 2 ^ (24 - s))) % 16777216) = fx 16777216 k (U / 2 ^ s % 16777216 ^ (i + 1)) := by
  rw [dn24 hs, mod_succ, Nat.mul_comm (16777216 ^ i)]
  refine fx_put (by decide) hi (Nat.mod_lt _ (by decide)) ?_
  rw [Nat.div_eq_of_lt (Nat.mod_lt _ (Nat.pow_pos (by decide))), Nat.zero_mod]
/-! the guess -/
theorem guess_lt {x y v c : Nat} (hx : x ≤ v) (hy : y < c) : x * c + y < v * c + c := by
  have := Nat.mul_le_mul_right c hx; omega
end Go.Proofs.Ytgafdhpagifpcaa.Num
