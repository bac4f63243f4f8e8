/-
  OWN WORK. The plain law: how many bits, bytes and limbs; trimming; numbers out of bytes. No program is in sight.
-/
import Derived.Test.YtgafdhpagifpcaaN3
namespace Go.Proofs.Ytgafdhpagifpcaa.Num
set_option linter.unusedVariables false

theorem eq_of_le_iff {a b : Nat} (h : ∀ k, a ≤ k ↔ b ≤ k) : a = b := Nat.le_antisymm ((h b).2 (Nat.le_refl b)) ((h a).1 (Nat.le_refl a))
theorem nl_pow {b q n : Nat} (hb : 2 ≤ b) (hq : 0 < q) : nl (b ^ q) n = (nl b n + (q - 1)) / q := by
  refine eq_of_le_iff fun k => ?_
  have h2 : 2 ≤ b ^ q := Nat.le_trans hb (by have := Nat.pow_le_pow_right (show 0 < b by omega) hq; simpa using this)
  rw [nl_le h2, ← Nat.pow_mul, ← nl_le hb]
  have := Nat.div_lt_iff_lt_mul (x := nl b n + (q - 1)) (y := k + 1) hq
  have e : (k + 1) * q = q * k + q := by rw [Nat.mul_comm, Nat.mul_succ]
  generalize (nl b n + (q - 1)) / q = z at *
  generalize q * k = y at *
  omega
theorem nl64 (n : Nat) : nl 18446744073709551616 n = (nl 256 n + 7) / 8 := nl_pow (b := 256) (q := 8) (by decide) (by decide)
theorem nl24 (n : Nat) : nl 16777216 n = (nl 256 n + 2) / 3 := nl_pow (b := 256) (q := 3) (by decide) (by decide)
theorem nl8 (n : Nat) : nl 256 n = (nl 2 n + 7) / 8 := nl_pow (b := 2) (q := 8) (by decide) (by decide)
theorem nl64b (n : Nat) : nl 18446744073709551616 n = (nl 2 n + 63) / 64 := nl_pow (b := 2) (q := 64) (by decide) (by decide)
theorem nl24b (n : Nat) : nl 16777216 n = (nl 2 n + 23) / 24 := nl_pow (b := 2) (q := 24) (by decide) (by decide)
/-- The bits of a number, by its highest digit. -/
theorem nl_top {q n : Nat} (hq : 0 < q) (hn : n ≠ 0) : nl 2 n = q * (nl (2 ^ q) n - 1) + nl 2 (n / (2 ^ q) ^ (nl (2 ^ q) n - 1) % 2 ^ q) := by
  have h2 : 2 ≤ 2 ^ q := by have := Nat.pow_le_pow_right (show 0 < 2 by omega) hq; simpa using this
  obtain ⟨h1, h3⟩ := top_ne (b := 2 ^ q) (n := n) h2 hn
  rw [Nat.mod_eq_of_lt h3] at h1 ⊢
  generalize nl (2 ^ q) n - 1 = j at *
  refine eq_of_le_iff fun k => ?_
  rw [← Nat.pow_mul] at *
  rw [nl_le (by decide)]
  rcases Nat.lt_or_ge k (q * j) with hk | hk
  · have h4 : 2 ^ (q * j) ≤ n := by
      rcases Nat.lt_or_ge n (2 ^ (q * j)) with h5 | h5
      · rw [Nat.div_eq_of_lt h5] at h1; omega
      · exact h5
    have := Nat.pow_le_pow_right (show 0 < 2 by omega) (Nat.le_of_lt hk)
    constructor <;> intro <;> omega
  · have e : k = (k - q * j) + q * j := by omega
    have : n < 2 ^ k ↔ nl 2 (n / 2 ^ (q * j)) ≤ k - q * j := by
      rw [nl_le (by decide), Nat.div_lt_iff_lt_mul (Nat.pow_pos (by decide)), ← Nat.pow_add, ← e]
    rw [this]; omega
theorem nl_top64 {n : Nat} (hn : n ≠ 0) : nl 2 n = 64 * (nl 18446744073709551616 n - 1) + nl 2 (n / 18446744073709551616 ^ (nl 18446744073709551616 n - 1) % 18446744073709551616) := nl_top (q := 64) (by decide) hn
def nlF (b : Nat) : Nat → Nat → Nat
  | 0, _ => 0
  | f + 1, n => if n = 0 then 0 else nlF b f (n / b) + 1
theorem nl_F {b : Nat} (hb : 2 ≤ b) : ∀ {f n : Nat}, n < b ^ f → nl b n = nlF b f n
  | 0, n, h => by simp at h; subst h; simp [nl_zero, nlF]
  | f + 1, n, h => by
    unfold nlF
    split
    · rename_i h0; subst h0; exact nl_zero b
    · rename_i h0
      rw [nl_pos hb h0, nl_F hb]
      rw [Nat.div_lt_iff_lt_mul (by omega), ← Nat.pow_succ]; exact h
theorem nl2_shift {x q : Nat} (h : 2 ^ q ≤ x) : nl 2 x = q + nl 2 (x / 2 ^ q) := by
  refine eq_of_le_iff fun k => ?_
  rw [nl_le (by decide)]
  rcases Nat.lt_or_ge k q with hk | hk
  · have := Nat.pow_le_pow_right (show 0 < 2 by omega) (Nat.le_of_lt hk)
    constructor <;> intro <;> omega
  · have : x < 2 ^ k ↔ nl 2 (x / 2 ^ q) ≤ k - q := by
      rw [nl_le (by decide), Nat.div_lt_iff_lt_mul (Nat.pow_pos (by decide)), ← Nat.pow_add, show k - q + q = k by omega]
    rw [this]; omega

/-! trimming -/
theorem trim_next {b V j : Nat} (hb : 0 < b) (h0 : 0 < j) (hV : V < b ^ j) (h : V / b ^ (j - 1) % b = 0) : V < b ^ (j - 1) :=
  small_of_top hb (by rwa [Nat.sub_add_cancel h0]) h
theorem trim_end {b V j : Nat} (hb : 2 ≤ b) (h0 : 0 < j) (hV : V < b ^ j) (h : V / b ^ (j - 1) % b ≠ 0) : fx b j V = dg b V := by
  have := dg_top (b := b) (n := V) (k := j - 1) hb (by rwa [Nat.sub_add_cancel h0]) h
  rw [this, Nat.sub_add_cancel h0]
theorem trim_nil {b V j : Nat} (h0 : j = 0) (hV : V < b ^ j) : fx b j V = dg b V := by
  subst h0; simp at hV; subst hV; rw [dg_zero]; rfl

/-! numbers out of bytes -/
theorem natOf_put {s : ByteArray} {i : Nat} (h : i < s.size) : (fx 18446744073709551616 ((s.size + 7) / 8) (hi s i)).set ((s.size - 1 - i) / 8)
    (hi s i / 18446744073709551616 ^ ((s.size - 1 - i) / 8) % 18446744073709551616 ||| (s.data.getD i 0).toNat % 18446744073709551616 * 2 ^ (8 * ((s.size - 1 - i) % 8)) % 18446744073709551616) =
    fx 18446744073709551616 ((s.size + 7) / 8) (hi s (i + 1)) := by
  have h1 := hi_put (s := s) (q := 8) (i := i) (K := (s.size + 7) / 8) (by decide) h (by omega)
  have hb := (s.data.getD i 0).toNat_lt
  have h2 : (s.data.getD i 0).toNat % 18446744073709551616 = (s.data.getD i 0).toNat := Nat.mod_eq_of_lt (by omega)
  have h3 : 2 ^ (8 * ((s.size - 1 - i) % 8)) = 256 ^ ((s.size - 1 - i) % 8) := by rw [Nat.pow_mul]
  have h4 := (hi_limb (s := s) (q := 8) (i := i) (by decide) h).2
  rw [h2, h3, Nat.mod_eq_of_lt (Nat.lt_of_le_of_lt (Nat.le_add_left _ _) h4)]
  exact h1
theorem natOf_lt (s : ByteArray) (i : Nat) : hi s i < 18446744073709551616 ^ ((s.size + 7) / 8) := by
  have h1 := hi_lt s i
  have h2 : (18446744073709551616 : Nat) ^ ((s.size + 7) / 8) = 256 ^ (8 * ((s.size + 7) / 8)) := by rw [Nat.pow_mul]
  rw [h2]
  exact Nat.lt_of_lt_of_le h1 (Nat.pow_le_pow_right (by decide) (by omega))
/-- One byte more. -/
theorem text_step {n K k : Nat} (h0 : 0 < k) (hk : k ≤ K) : (fx 256 (K - k) (n / 256 ^ k)).reverse ++ [n / 18446744073709551616 ^ ((k - 1) / 8) % 18446744073709551616 / 2 ^ (8 * ((k - 1) % 8)) % 256] = (fx 256 (K - (k - 1)) (n / 256 ^ (k - 1))).reverse := by
  have h1 := dig_dig (b := 256) (k := 8) (n := n) (i := (k - 1) / 8) (j := (k - 1) % 8) (Nat.mod_lt _ (by decide))
  have h2 : 2 ^ (8 * ((k - 1) % 8)) = 256 ^ ((k - 1) % 8) := by rw [Nat.pow_mul]
  rw [h2]
  have h3 : n / 18446744073709551616 ^ ((k - 1) / 8) % 18446744073709551616 / 256 ^ ((k - 1) % 8) % 256 = n / 256 ^ (8 * ((k - 1) / 8) + (k - 1) % 8) % 256 := h1
  rw [h3, Nat.div_add_mod, show K - (k - 1) = (K - k) + 1 by omega]
  simp only [fx, List.reverse_cons]
  rw [Nat.div_div_eq_div_mul, ← Nat.pow_succ, show (k - 1).succ = k by omega]
end Go.Proofs.Ytgafdhpagifpcaa.Num
