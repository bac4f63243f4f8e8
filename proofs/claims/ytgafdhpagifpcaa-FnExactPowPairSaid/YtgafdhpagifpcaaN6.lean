/-
  OWN WORK. The plain law: products, digit by digit; figures. No program is in sight.
-/
import Derived.Test.YtgafdhpagifpcaaN5
namespace Go.Proofs.Ytgafdhpagifpcaa.Num
set_option linter.unusedVariables false

theorem set_lt {b k n m j x : Nat} (hb : 0 < b) (hj : j < k) (hx : x < b) (hn : n < b ^ k) (h : m + n / b ^ j % b * b ^ j = n + x * b ^ j) : m < b ^ k := by
  have hp : 0 < b ^ j := Nat.pow_pos hb
  have hd := Nat.div_add_mod n (b ^ j)
  have hq := Nat.div_add_mod (n / b ^ j) b
  have hr := Nat.mod_lt n hp
  have e : b ^ k = b ^ j * b * b ^ (k - (j + 1)) := by rw [← Nat.pow_succ, ← Nat.pow_add]; congr 1; omega
  have h3 : n = b ^ j * b * (n / b ^ j / b) + (n / b ^ j % b) * b ^ j + n % b ^ j := by
    conv => lhs; rw [← hd, ← hq]
    rw [Nat.mul_add, ← Nat.mul_assoc, Nat.mul_comm (b ^ j) (n / b ^ j % b)]
  have hh : n / b ^ j / b < b ^ (k - (j + 1)) := by
    rw [Nat.div_div_eq_div_mul]
    exact Nat.div_lt_of_lt_mul (by rw [← e]; exact hn)
  have h4 := Nat.mul_le_mul_left (b ^ j * b) (Nat.succ_le_of_lt hh)
  rw [← e, Nat.mul_succ] at h4
  have h5 : x * b ^ j + b ^ j ≤ b ^ j * b := by
    have := Nat.mul_le_mul_right (b ^ j) (Nat.succ_le_of_lt hx)
    rw [Nat.succ_mul, Nat.mul_comm b] at this; exact this
  omega
/-- One digit of a product: what stands, what is carried. -/
theorem mul_next {b W c P x V y lo ca i k K : Nat} (hb : 0 < b) (h : W + c * b ^ (i + k) = P + x * V * b ^ i) (hW : W < b ^ K) (hik : i + k < K) (hlo : lo < b) (hd : lo + ca * b = x * y + W / b ^ (i + k) % b + c) :
    ∃ W', W' + W / b ^ (i + k) % b * b ^ (i + k) = W + lo * b ^ (i + k) ∧ W' < b ^ K ∧ W' + ca * b ^ (i + (k + 1)) = P + x * (V + b ^ k * y) * b ^ i := by
  have hle : W / b ^ (i + k) % b * b ^ (i + k) ≤ W := Nat.le_trans (Nat.mul_le_mul_right _ (Nat.mod_le _ _)) (Nat.div_mul_le_self _ _)
  refine ⟨W + lo * b ^ (i + k) - W / b ^ (i + k) % b * b ^ (i + k), by omega, ?_, ?_⟩
  · exact set_lt hb hik hlo hW (by omega)
  · have e1 : b ^ (i + (k + 1)) = b * b ^ (i + k) := by rw [← Nat.add_assoc, Nat.pow_succ, Nat.mul_comm]
    have e2 : x * (V + b ^ k * y) * b ^ i = x * V * b ^ i + x * y * b ^ (i + k) := by rw [Nat.mul_add, Nat.add_mul, Nat.pow_add]; congr 1; ac_rfl
    rw [e1, e2, ← Nat.mul_assoc]
    generalize b ^ (i + k) = p at *
    generalize W / p % b = d at *
    have e3 : lo * p + ca * b * p = x * y * p + d * p + c * p := by rw [← Nat.add_mul, hd, Nat.add_mul, Nat.add_mul]
    omega
/-- The last digit of a round. -/
theorem mul_last {b W c T i n K : Nat} (hb : 0 < b) (h : W + c * b ^ (i + n) = T) (hW : W < b ^ (i + n)) (hK : i + n < K) (hc : c < b) : (fx b K W).set (i + n) c = fx b K T := by
  rw [← h]; exact fx_put hb hK hc (by rw [Nat.div_eq_of_lt hW]; simp)
theorem mul_carry {x y d c : Nat} (hx : x < 18446744073709551616) (hy : y < 18446744073709551616) (hd : d < 18446744073709551616) (hc : c < 18446744073709551616) :
    ((x * y % 18446744073709551616 + d + 0) % 18446744073709551616 + c + 0) % 18446744073709551616 +
      ((x * y / 18446744073709551616 + (x * y % 18446744073709551616 + d + 0) / 18446744073709551616) % 18446744073709551616 + ((x * y % 18446744073709551616 + d + 0) % 18446744073709551616 + c + 0) / 18446744073709551616) % 18446744073709551616 * 18446744073709551616 = x * y + d + c := by
  have h : x * y ≤ 18446744073709551615 * 18446744073709551615 := Nat.mul_le_mul (by omega) (by omega)
  generalize x * y = m at *
  omega
theorem times_next (a n b i : Nat) : a % b ^ i * n + a / b ^ i % b * n * b ^ i = a % b ^ (i + 1) * n := by
  rw [mod_succ, Nat.add_mul, Nat.mul_comm (b ^ i), Nat.mul_right_comm]

/-! figures -/
/-- The number of the first i figures. -/
def dN (s : ByteArray) (i : Nat) : Nat := (s.data.toList.take i).foldl (fun n c => 10 * n + (c.toNat - 48)) 0
def isFig (c : UInt8) : Prop := 48 ≤ c.toNat ∧ c.toNat ≤ 57
def figsOk (s : ByteArray) : Prop := ∀ i, i < s.size → isFig (s.data.getD i 0)
theorem dN_zero (s : ByteArray) : dN s 0 = 0 := by simp [dN]
theorem dN_succ {s : ByteArray} {i : Nat} (h : i < s.size) : dN s (i + 1) = 10 * dN s i + ((s.data.getD i 0).toNat - 48) := by
  have hi : i < s.data.toList.length := by rw [Array.length_toList]; exact h
  unfold dN
  rw [List.take_succ_eq_append_getElem hi, List.foldl_append]
  have : s.data.getD i 0 = s.data.toList[i] := by
    rw [Array.getD_eq_getD_getElem?, Array.getElem?_eq_getElem (by simpa using hi)]; simp
  rw [this]; rfl
theorem dN_lt {s : ByteArray} (h : ∀ j, j < s.size → (s.data.getD j 0).toNat - 48 ≤ 9) : ∀ {i : Nat}, i ≤ s.size → dN s i < 10 ^ i
  | 0, _ => by simp [dN_zero]
  | i + 1, hi => by
    have h1 := dN_lt h (i := i) (by omega)
    have h2 := h i (by omega)
    rw [dN_succ (by omega), Nat.pow_succ]; omega
theorem nl_ten {n i : Nat} (h : n < 10 ^ i) : nl 18446744073709551616 n ≤ i := (nl_le (by decide)).2 (Nat.lt_of_lt_of_le h (Nat.pow_le_pow_left (by decide) i))
/-- What fromFigures holds behind i figures: a number, what is own, and its scale. -/
structure Fig (s : ByteArray) (i O w q : Nat) : Prop where
  sum : O * q + w = dN s i
  lt : w < q
  scale : i < s.size → q = 10 ^ (i % 18)
  last : i = s.size → q = 1
theorem pow18 {k : Nat} (h : k < 18) : 10 ^ k ≤ 100000000000000000 := by
  have := Nat.pow_le_pow_right (show 0 < 10 by decide) (show k ≤ 17 by omega)
  simpa using this
theorem Fig.go {s : ByteArray} {i O w q d : Nat} (h : Fig s i O w q) (hi : i < s.size) (hd : (s.data.getD i 0).toNat - 48 = d) (hd9 : d ≤ 9) (h1 : ¬ i % 18 = 17) (h2 : ¬ i + 1 = s.size) : Fig s (i + 1) O (10 * w + d) (10 * q) := by
  have hq := h.scale hi
  refine ⟨?_, by have := h.lt; omega, fun _ => ?_, fun h => absurd h h2⟩
  · rw [dN_succ hi, ← h.sum, hd, Nat.mul_left_comm]; omega
  · rw [hq, show (i + 1) % 18 = i % 18 + 1 by omega, Nat.pow_succ, Nat.mul_comm]
theorem Fig.cut {s : ByteArray} {i O w q d : Nat} (h : Fig s i O w q) (hi : i < s.size) (hd : (s.data.getD i 0).toNat - 48 = d) (h1 : i % 18 = 17 ∨ i + 1 = s.size) : Fig s (i + 1) (O * (10 * q) + (10 * w + d)) 0 1 := by
  refine ⟨?_, by decide, fun hlt => ?_, fun _ => rfl⟩
  · rw [dN_succ hi, ← h.sum, hd, Nat.mul_left_comm]; omega
  · have : (i + 1) % 18 = 0 := by omega
    rw [this]
theorem Fig.done {s : ByteArray} {O w q : Nat} (h : Fig s s.size O w q) : O = dN s s.size := by
  have h1 := h.last rfl
  have h2 := h.lt
  have h3 := h.sum
  subst h1; omega
theorem Fig.start (s : ByteArray) : Fig s 0 0 0 1 := ⟨by simp [dN_zero], by decide, fun _ => rfl, fun _ => rfl⟩
theorem Fig.le {s : ByteArray} {i O w q : Nat} (h : Fig s i O w q) : O ≤ dN s i := by
  have h1 := h.sum
  have h2 := h.lt
  have : O * 1 ≤ O * q := Nat.mul_le_mul_left _ (by omega)
  omega
theorem Fig.q_le {s : ByteArray} {i O w q : Nat} (h : Fig s i O w q) (hi : i < s.size) : q ≤ 100000000000000000 := by rw [h.scale hi]; exact pow18 (Nat.mod_lt _ (by decide))
end Go.Proofs.Ytgafdhpagifpcaa.Num
