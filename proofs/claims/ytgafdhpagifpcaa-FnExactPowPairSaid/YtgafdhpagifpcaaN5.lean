/-
  OWN WORK. The plain law: bytes out of limbs and back; digits of sums and differences; rests of a modulus. No program is in sight.
-/
import Derived.Test.YtgafdhpagifpcaaN4
namespace Go.Proofs.Ytgafdhpagifpcaa.Num
set_option linter.unusedVariables false

theorem add_digit {b m n i : Nat} (hb : 0 < b) : (m + n) / b ^ i % b = (m / b ^ i % b + n / b ^ i % b + carry b m n i) % b := by
  have hp : 0 < b ^ i := Nat.pow_pos hb
  have h1 : ∀ j, (m + n) % b ^ j = low b m n j := fun j => Nat.add_mod m n (b ^ j)
  have h2 := mod_succ (m + n) b i
  rw [h1, h1, (plus_next hb).2, Nat.mul_comm] at h2
  have h3 : b ^ i * ((m / b ^ i % b + n / b ^ i % b + carry b m n i) % b) = b ^ i * ((m + n) / b ^ i % b) := by omega
  exact (Nat.eq_of_mul_eq_mul_left hp h3).symm
theorem dif_mod {b m n i : Nat} (hb : 0 < b) (h : n ≤ m) : dif b m n i = (m - n) % b ^ i := by
  have hp : 0 < b ^ i := Nat.pow_pos hb
  obtain ⟨h1, h2⟩ := dif_eq (b := b) (m := m) (n := n) (i := i) hb
  have h3 := bor_le (b := b) (m := m) (n := n) (i := i)
  have h4 : ((m - n) % b ^ i + n % b ^ i) % b ^ i = m % b ^ i := by rw [← Nat.add_mod, Nat.sub_add_cancel h]
  have h5 := Nat.mod_lt (m - n) hp
  have h6 := Nat.mod_lt n hp
  have h7 := Nat.mod_lt m hp
  have h8 : bor b m n i = 0 ∨ bor b m n i = 1 := by omega
  generalize (m - n) % b ^ i = r at *
  generalize n % b ^ i = y at *
  generalize m % b ^ i = x at *
  generalize b ^ i = p at *
  rcases Nat.lt_or_ge (r + y) p with h9 | h9
  · rw [Nat.mod_eq_of_lt h9] at h4
    rcases h8 with h8 | h8 <;> rw [h8] at h1 <;> omega
  · rw [Nat.mod_eq_sub_mod h9, Nat.mod_eq_of_lt (by omega)] at h4
    rcases h8 with h8 | h8 <;> rw [h8] at h1 <;> omega
theorem sub_digit {b m n i : Nat} (hb : 0 < b) (h : n ≤ m) : (m - n) / b ^ i % b = (m / b ^ i % b + b - n / b ^ i % b - bor b m n i) % b := by
  have hp : 0 < b ^ i := Nat.pow_pos hb
  have h2 := mod_succ (m - n) b i
  rw [← dif_mod hb h, ← dif_mod hb h, (less_next hb).2, Nat.mul_comm] at h2
  have h3 : b ^ i * ((m / b ^ i % b + b - n / b ^ i % b - bor b m n i) % b) = b ^ i * ((m - n) / b ^ i % b) := by omega
  exact (Nat.eq_of_mul_eq_mul_left hp h3).symm
/-- The digits of a sum, with what is carried last. -/
theorem sum_carry {b m n i : Nat} (hb : 2 ≤ b) (hm : nl b m = i) (hn : nl b n ≤ i) (h : carry b m n i ≠ 0) : fx b i (m + n) ++ [carry b m n i] = dg b (m + n) := by
  have hm' := (nl_le hb).1 (Nat.le_of_eq hm)
  have hn' := (nl_le hb).1 hn
  have h1 := plus_all hm' hn'
  have h2 := carry_le (b := b) (m := m) (n := n) (i := i) (by omega)
  have h3 : carry b m n i = 1 := by omega
  have h4 := low_lt (b := b) (m := m) (n := n) (i := i) (by omega)
  have h5 : (m + n) / b ^ i % b = 1 := by
    rw [← h1, h3, Nat.one_mul, Nat.add_div_right _ (Nat.pow_pos (by omega)), Nat.div_eq_of_lt h4]
    exact Nat.mod_eq_of_lt (by omega)
  rw [dg_top (k := i) hb (plus_lt hb (Nat.le_of_eq hm) hn) (by omega), fx_snoc, h5, h3]
theorem sum_none {b m n i : Nat} (hb : 2 ≤ b) (hm : nl b m = i) (hn : nl b n ≤ i) (h : carry b m n i = 0) : fx b i (m + n) = dg b (m + n) := by
  have hm' := (nl_le hb).1 (Nat.le_of_eq hm)
  have hn' := (nl_le hb).1 hn
  have h1 := plus_all hm' hn'
  rw [h, Nat.zero_mul, Nat.add_zero] at h1
  have h4 := low_lt (b := b) (m := m) (n := n) (i := i) (by omega)
  have h6 : nl b (m + n) ≤ i := (nl_le hb).2 (by omega)
  have h7 := nl_mono (n := m + n) hb (Nat.le_add_right m n)
  unfold dg
  rw [show nl b (m + n) = i by omega]

/-! bytes at their places -/
theorem rev_set {b M V V' p x : Nat} (h : (fx b M V).set p x = fx b M V') (hp : p < M) : (fx b M V).reverse.set (M - 1 - p) x = (fx b M V').reverse := by
  rw [← h]
  apply List.ext_getElem?
  intro j
  rcases Nat.lt_or_ge j M with hj | hj
  · rw [List.getElem?_set, List.getElem?_reverse (by rw [fx_len]; exact hj), fx_len, List.length_reverse, fx_len, List.getElem?_reverse (by rw [List.length_set, fx_len]; exact hj), List.length_set, fx_len, List.getElem?_set, fx_len]
    by_cases he : M - 1 - p = j
    · rw [if_pos he, if_pos (by omega), if_pos (by omega), if_pos (by omega)]
    · rw [if_neg he, if_neg (by omega)]
  · rw [List.getElem?_eq_none (by rw [List.length_set, List.length_reverse, fx_len]; exact hj), List.getElem?_eq_none (by rw [List.length_reverse, List.length_set, fx_len]; exact hj)]
theorem rev_get {b M V j : Nat} (h : j < M) : (fx b M V).reverse[j]? = some (V / b ^ (M - 1 - j) % b) := by
  rw [List.getElem?_reverse (by rw [fx_len]; exact h), fx_len, fx_get (by omega)]
/-- A limb of three bytes is written. -/
theorem out3 {n i K : Nat} (hi : i < K) :
    (((fx 256 (3 * K) (n % 16777216 ^ i)).reverse.set (3 * K - 3 * i - 1) (n / 16777216 ^ i % 16777216 % 256)).set (3 * K - 3 * i - 2) (n / 16777216 ^ i % 16777216 / 2 ^ 8 % 256)).set (3 * K - 3 * i - 3) (n / 16777216 ^ i % 16777216 / 2 ^ 16 % 256) =
      (fx 256 (3 * K) (n % 16777216 ^ (i + 1))).reverse := by
  have hp : (0 : Nat) < 16777216 ^ i := Nat.pow_pos (by decide)
  have e0 : (16777216 : Nat) ^ i = 256 ^ (3 * i) := by rw [Nat.pow_mul]
  have hl : n % 16777216 ^ i < 256 ^ (3 * i) := by rw [← e0]; exact Nat.mod_lt _ hp
  rw [mod_succ n 16777216 i]
  have hd := Nat.mod_lt (n / 16777216 ^ i) (show 0 < 16777216 by decide)
  generalize n / 16777216 ^ i % 16777216 = d at *
  generalize n % 16777216 ^ i = V at *
  rw [e0]
  have q : (0 : Nat) < 256 ^ (3 * i) := Nat.pow_pos (by decide)
  have s1 := rev_set (fx_put (b := 256) (k := 3 * K) (n := V) (j := 3 * i) (x := d % 256) (by decide) (by omega) (by omega) (by rw [Nat.div_eq_of_lt hl])) (by omega)
  have l1 : V + d % 256 * 256 ^ (3 * i) < 256 ^ (3 * i + 1) := by
    have := Nat.mul_le_mul_right (256 ^ (3 * i)) (show d % 256 + 1 ≤ 256 by omega)
    rw [Nat.add_mul] at this
    rw [Nat.pow_succ]; omega
  have s2 := rev_set (fx_put (b := 256) (k := 3 * K) (n := V + d % 256 * 256 ^ (3 * i)) (j := 3 * i + 1) (x := d / 2 ^ 8 % 256) (by decide) (by omega) (by omega) (by rw [Nat.div_eq_of_lt l1])) (by omega)
  have l2 : V + d % 256 * 256 ^ (3 * i) + d / 2 ^ 8 % 256 * 256 ^ (3 * i + 1) < 256 ^ (3 * i + 2) := by
    have := Nat.mul_le_mul_right (256 ^ (3 * i + 1)) (show d / 2 ^ 8 % 256 + 1 ≤ 256 by omega)
    rw [Nat.add_mul] at this
    rw [show 3 * i + 2 = 3 * i + 1 + 1 by omega, Nat.pow_succ 256 (3 * i + 1)]; omega
  have s3 := rev_set (fx_put (b := 256) (k := 3 * K) (n := V + d % 256 * 256 ^ (3 * i) + d / 2 ^ 8 % 256 * 256 ^ (3 * i + 1)) (j := 3 * i + 2) (x := d / 2 ^ 16 % 256) (by decide) (by omega) (by omega) (by rw [Nat.div_eq_of_lt l2])) (by omega)
  rw [show 3 * K - 3 * i - 1 = 3 * K - 1 - 3 * i by omega, s1, show 3 * K - 3 * i - 2 = 3 * K - 1 - (3 * i + 1) by omega, s2, show 3 * K - 3 * i - 3 = 3 * K - 1 - (3 * i + 2) by omega, s3]
  congr 2
  rw [show 256 ^ (3 * i + 2) = 256 ^ (3 * i) * 65536 by rw [Nat.pow_add], show 256 ^ (3 * i + 1) = 256 ^ (3 * i) * 256 by rw [Nat.pow_add]]
  have : d = d % 256 + d / 2 ^ 8 % 256 * 256 + d / 2 ^ 16 % 256 * 65536 := by omega
  conv => rhs; rw [this]
  rw [Nat.mul_add, Nat.mul_add, Nat.mul_comm (d % 256), Nat.mul_left_comm, Nat.mul_left_comm (d / 2 ^ 16 % 256)]
  rw [Nat.add_assoc, Nat.add_assoc, Nat.add_assoc]
/-- What is left behind the noughts ahead. -/
theorem drop_rev {b M n m : Nat} (h : m ≤ M) : (fx b M n).reverse.drop m = (fx b (M - m) n).reverse := by
  rw [List.drop_reverse, fx_len, fx_take (by omega)]
theorem bytes_done {M m n : Nat} (hm : m ≤ M) (h1 : n < 256 ^ (M - m)) (h2 : m < M → n / 256 ^ (M - 1 - m) % 256 ≠ 0) : fx 256 (M - m) n = dg 256 n := by
  rcases Nat.lt_or_ge m M with h | h
  · have e : M - m = (M - 1 - m) + 1 := by omega
    rw [e] at h1 ⊢
    exact (dg_top (by decide) h1 (h2 h)).symm
  · have e : M - m = 0 := by omega
    rw [e] at h1 ⊢
    simp at h1; subst h1; rw [dg_zero]; rfl
theorem bytes_next {M m n : Nat} (hm : m < M) (h1 : n < 256 ^ (M - m)) (h2 : n / 256 ^ (M - 1 - m) % 256 = 0) : n < 256 ^ (M - (m + 1)) := by
  have e : M - m = (M - 1 - m) + 1 := by omega
  rw [e] at h1
  rw [show M - (m + 1) = M - 1 - m by omega]
  exact small_of_top (by decide) h1 h2

/-! limbs of three bytes, out of a text -/
/-- t bytes of the limb i, from its highest one on. -/
def lpart (s : ByteArray) (i t : Nat) : Nat := beN s / 256 ^ (3 * i + 3 - t) % 256 ^ t
theorem lpart_zero (s : ByteArray) (i : Nat) : lpart s i 0 = 0 := by simp [lpart, Nat.mod_one]
theorem lpart_all (s : ByteArray) (i : Nat) : lpart s i 3 = beN s / 16777216 ^ i % 16777216 := by
  unfold lpart
  rw [show 3 * i + 3 - 3 = 3 * i by omega, Nat.pow_mul]
theorem lpart_next {s : ByteArray} {i t : Nat} (ht : t < 3) : lpart s i (t + 1) = 256 * lpart s i t + beN s / 256 ^ (3 * i + 2 - t) % 256 := by
  unfold lpart
  rw [show 3 * i + 3 - (t + 1) = 3 * i + 2 - t by omega, show 3 * i + 3 - t = (3 * i + 2 - t) + 1 by omega]
  generalize 3 * i + 2 - t = k
  rw [Nat.pow_succ, Nat.pow_succ, ← Nat.div_div_eq_div_mul, Nat.mul_comm (256 ^ t) 256, Nat.mod_mul, Nat.add_comm]
theorem lpart_byte {s : ByteArray} {i t j : Nat} (ht : t < 3) (hj : j + (3 * i + 3) = s.size + t) : lpart s i (t + 1) = 256 * lpart s i t + (s.data.getD j 0).toNat := by
  rw [lpart_next ht, ← byte_at (s := s) (i := j) (by omega), show s.size - 1 - j = 3 * i + 2 - t by omega]
theorem lpart_none {s : ByteArray} {i t : Nat} (ht : t < 3) (hj : s.size + t < 3 * i + 3) : lpart s i (t + 1) = lpart s i t := by
  have h1 := beN_lt s
  unfold lpart
  have h2 : ∀ k, s.size ≤ k → beN s / 256 ^ k = 0 := fun k hk => Nat.div_eq_of_lt (Nat.lt_of_lt_of_le h1 (Nat.pow_le_pow_right (by decide) hk))
  rw [h2 _ (by omega), h2 _ (by omega)]; simp
theorem lpart_lt {s : ByteArray} {i t : Nat} : lpart s i t < 256 ^ t := Nat.mod_lt _ (Nat.pow_pos (by decide))
theorem lpart_small {s : ByteArray} {i t : Nat} (h : t ≤ 3) : lpart s i t < 16777216 := Nat.lt_of_lt_of_le lpart_lt (by have := Nat.pow_le_pow_right (show 0 < 256 by decide) h; simpa using this)
theorem l02In_lt {s : ByteArray} {i : Nat} (h : s.size ≤ 3 * i) : beN s < 16777216 ^ i := by
  have := beN_lt s
  rw [show (16777216 : Nat) ^ i = 256 ^ (3 * i) by rw [Nat.pow_mul]]
  exact Nat.lt_of_lt_of_le this (Nat.pow_le_pow_right (by decide) h)

theorem nl64_size (s : ByteArray) : nl 18446744073709551616 (beN s) ≤ s.size := (nl_le (by decide)).2 (Nat.lt_of_lt_of_le (beN_lt s) (Nat.pow_le_pow_left (by decide) _))
theorem nl24_size (s : ByteArray) : nl 16777216 (beN s) ≤ s.size := (nl_le (by decide)).2 (Nat.lt_of_lt_of_le (beN_lt s) (Nat.pow_le_pow_left (by decide) _))
/-! rests -/
noncomputable def modOk (p : ByteArray) : Prop := greatOk p ∧ 1 < beN p
noncomputable def restOk (a p : ByteArray) : Prop := greatOk a ∧ greatOk p ∧ beN a < beN p
def subM (p a b : Nat) : Nat := if b ≤ a then a - b else a + p - b
theorem subM_lt {p a b : Nat} (ha : a < p) (hb : b < p) : subM p a b < p := by unfold subM; split <;> omega
def P160 : Nat := 256 ^ 160
theorem nl_20 {n : Nat} (h : n < P160) : nl 18446744073709551616 n ≤ 20 := (nl_le (by decide)).2 (by unfold P160 at h; exact Nat.lt_of_lt_of_le h (by decide))
theorem nl_54 {n : Nat} (h : n < P160) : nl 16777216 n ≤ 54 := (nl_le (by decide)).2 (by unfold P160 at h; exact Nat.lt_of_lt_of_le h (by decide))
end Go.Proofs.Ytgafdhpagifpcaa.Num
