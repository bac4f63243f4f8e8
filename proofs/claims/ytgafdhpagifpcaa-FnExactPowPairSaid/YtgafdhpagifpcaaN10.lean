/-
  OWN WORK. The plain law: what division of words wants beside N8. No program is in sight.
-/
import Derived.Test.YtgafdhpagifpcaaN9
namespace Go.Proofs.Ytgafdhpagifpcaa.Num
set_option linter.unusedVariables false

theorem norm_all {b m s : Nat} (hnl : nl 18446744073709551616 b = m + 2) (hs : s = 64 - nl 2 (b / 18446744073709551616 ^ (m + 1) % 18446744073709551616)) :
    s ≤ 63 ∧ b * 2 ^ s < 18446744073709551616 ^ (m + 2) ∧ 18446744073709551616 ≤ 2 * (b * 2 ^ s / 18446744073709551616 ^ (m + 1)) ∧ 18446744073709551616 ^ (m + 1) ≤ b * 2 ^ s ∧ b / 18446744073709551616 ^ (m + 1) < 18446744073709551616 := by
  have h1 := lt_nl (b := 18446744073709551616) (by decide) b
  have h2 := pow_le_of_nl (b := 18446744073709551616) (n := b) (by decide) (k := m + 1) (by omega)
  rw [hnl] at h1
  have hp : 0 < 18446744073709551616 ^ (m + 1) := Nat.pow_pos (by decide)
  have ht0 : 0 < b / 18446744073709551616 ^ (m + 1) := Nat.div_pos h2 hp
  have ht : b / 18446744073709551616 ^ (m + 1) < 18446744073709551616 := by
    rw [Nat.div_lt_iff_lt_mul hp, Nat.mul_comm, ← Nat.pow_succ]; exact h1
  rw [Nat.mod_eq_of_lt ht] at hs
  obtain ⟨k1, k2, k3⟩ := norm64 ht0 ht hs
  have hq : 0 < 2 ^ s := Nat.pow_pos (by decide)
  have hm := Nat.div_add_mod b (18446744073709551616 ^ (m + 1))
  have hr := Nat.mod_lt b hp
  have hle : b / 18446744073709551616 ^ (m + 1) * 2 ^ s ≤ b * 2 ^ s / 18446744073709551616 ^ (m + 1) := by
    rw [Nat.le_div_iff_mul_le hp, Nat.mul_right_comm]
    exact Nat.mul_le_mul_right _ (Nat.div_mul_le_self _ _)
  refine ⟨k1, ?_, ?_, ?_, ht⟩
  · have h3 : b / 18446744073709551616 ^ (m + 1) + 1 ≤ 2 ^ (64 - s) := by
      have : b / 18446744073709551616 ^ (m + 1) < 2 ^ (64 - s) := by
        have e := two64 (s := s) (by omega)
        generalize b / 18446744073709551616 ^ (m + 1) = z at *
        rw [e] at k2
        exact Nat.lt_of_mul_lt_mul_right k2
      exact this
    have h4 : (b / 18446744073709551616 ^ (m + 1) + 1) * 18446744073709551616 ^ (m + 1) ≤ 2 ^ (64 - s) * 18446744073709551616 ^ (m + 1) := Nat.mul_le_mul_right _ h3
    have h5 : b < 2 ^ (64 - s) * 18446744073709551616 ^ (m + 1) := by
      rw [Nat.succ_mul, Nat.mul_comm (b / _)] at h4
      omega
    have h6 := Nat.mul_lt_mul_of_pos_right h5 hq
    have h7 : 2 ^ (64 - s) * 18446744073709551616 ^ (m + 1) * 2 ^ s = 18446744073709551616 ^ (m + 2) := by
      rw [Nat.mul_right_comm, ← two64 (by omega), Nat.pow_succ _ (m + 1), Nat.mul_comm]
    rw [h7] at h6; exact h6
  · generalize b * 2 ^ s / 18446744073709551616 ^ (m + 1) = z at *
    omega
  · exact Nat.le_trans h2 (Nat.le_mul_of_pos_right _ hq)
theorem top_le {b m j U V : Nat} (hb : 0 < b) (hU : U < V * b ^ (j + 1)) : U / b ^ (j + m + 2) ≤ V / b ^ (m + 1) := by
  have e : b ^ (j + m + 2) = b ^ (j + 1) * b ^ (m + 1) := by rw [← Nat.pow_add]; congr 1; omega
  rw [e, ← Nat.div_div_eq_div_mul]
  refine Nat.div_le_div_right (Nat.le_of_lt ?_)
  rw [Nat.div_lt_iff_lt_mul (Nat.pow_pos hb)]; exact hU
theorem top_word {b m j U V : Nat} (hb : 0 < b) (hU : U < V * b ^ (j + 1)) (hV : V < b ^ (m + 2)) : U / b ^ (j + m + 2) < b := by
  have h := top_le (m := m) hb hU
  refine Nat.lt_of_le_of_lt h ?_
  rw [Nat.div_lt_iff_lt_mul (Nat.pow_pos hb), Nat.mul_comm, ← Nat.pow_succ]; exact hV
theorem U_lt {b m j U V : Nat} (hU : U < V * b ^ (j + 1)) (hV : V < b ^ (m + 2)) (hb : 0 < b) : U < b ^ (m + 2 + j + 1) := by
  refine Nat.lt_of_lt_of_le hU ?_
  rw [show m + 2 + j + 1 = (m + 2) + (j + 1) by omega, Nat.pow_add b (m + 2) (j + 1)]
  exact Nat.mul_le_mul_right _ (Nat.le_of_lt hV)
theorem DV.go {B a b s D m : Nat} (hB : 0 < B) (ha : a < B ^ (m + 2 + D)) (hb : B ^ (m + 1) ≤ b) : DV B (a * 2 ^ s) (b * 2 ^ s) (D + 1) (a * 2 ^ s) 0 := by
  refine ⟨by omega, ?_, Nat.zero_mod _⟩
  rw [Nat.mul_right_comm]
  refine Nat.mul_lt_mul_of_pos_right (Nat.lt_of_lt_of_le ha ?_) (Nat.pow_pos (by decide))
  have : B ^ (m + 2 + D) = B ^ (m + 1) * B ^ (D + 1) := by rw [← Nat.pow_add]; congr 1; omega
  rw [this]; exact Nat.mul_le_mul_right _ hb
theorem quo_lt {B a b D m : Nat} (hB : 0 < B) (ha : a < B ^ (m + 2 + D)) (hb : B ^ (m + 1) ≤ b) : a / b < B ^ (D + 1) := by
  have hp : 0 < b := Nat.lt_of_lt_of_le (Nat.pow_pos hB) hb
  rw [Nat.div_lt_iff_lt_mul hp]
  refine Nat.lt_of_lt_of_le ha ?_
  have : B ^ (m + 2 + D) = B ^ (D + 1) * B ^ (m + 1) := by rw [← Nat.pow_add]; congr 1; omega
  rw [this]; exact Nat.mul_le_mul_left _ hb
/-- One step of multiplying and taking away, in words. -/
theorem ms_word {q y c bo d : Nat} (hq : q < 18446744073709551616) (hy : y < 18446744073709551616) (hc : c + bo < 18446744073709551616) (hb : bo ≤ 1) (hd : d < 18446744073709551616) :
    (d + 18446744073709551616 - (q * y % 18446744073709551616 + c + 0) % 18446744073709551616 - bo) % 18446744073709551616 + (q * y + (c + bo)) =
      d + ((q * y / 18446744073709551616 + (q * y % 18446744073709551616 + c + 0) / 18446744073709551616) % 18446744073709551616 + (if d < (q * y % 18446744073709551616 + c + 0) % 18446744073709551616 + bo then 1 else 0)) * 18446744073709551616 := by
  have h : q * y ≤ 18446744073709551615 * 18446744073709551615 := Nat.mul_le_mul (by omega) (by omega)
  generalize q * y = m at *
  split <;> omega
theorem ms_top {c bo d : Nat} (hc : c + bo < 18446744073709551616) (hb : bo ≤ 1) (hd : d < 18446744073709551616) :
    (d + 18446744073709551616 - c - bo) % 18446744073709551616 + (c + bo) = d + (if d < c + bo then 1 else 0) * 18446744073709551616 := by
  split <;> omega
theorem ite_one {p : Prop} [Decidable p] : (if p then 1 else 0 : Nat) ≤ 1 := by split <;> omega
end Go.Proofs.Ytgafdhpagifpcaa.Num
