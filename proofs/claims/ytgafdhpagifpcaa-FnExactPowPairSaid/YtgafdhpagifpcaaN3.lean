/-
  OWN WORK. The plain law: sums, differences and comparisons, digit by digit. No program is in sight.
-/
import Derived.Test.YtgafdhpagifpcaaN2
namespace Go.Proofs.Ytgafdhpagifpcaa.Num
set_option linter.unusedVariables false

theorem mod_succ (a b i : Nat) : a % b ^ (i + 1) = a % b ^ i + b ^ i * (a / b ^ i % b) := by rw [Nat.pow_succ, Nat.mod_mul]
/-- What is carried, and what stands, behind i digits of a sum. -/
def carry (b m n i : Nat) : Nat := (m % b ^ i + n % b ^ i) / b ^ i
def low (b m n i : Nat) : Nat := (m % b ^ i + n % b ^ i) % b ^ i
theorem carry_le {b m n i : Nat} (hb : 0 < b) : carry b m n i ≤ 1 := by
  have hp : 0 < b ^ i := Nat.pow_pos hb
  have h1 := Nat.mod_lt m hp
  have h2 := Nat.mod_lt n hp
  have : carry b m n i < 2 := (Nat.div_lt_iff_lt_mul hp).2 (by omega)
  omega
theorem low_lt {b m n i : Nat} (hb : 0 < b) : low b m n i < b ^ i := Nat.mod_lt _ (Nat.pow_pos hb)
theorem carry_zero {b m n : Nat} : carry b m n 0 = 0 := by simp [carry, Nat.mod_one]
theorem low_zero {b m n : Nat} : low b m n 0 = 0 := by simp [low, Nat.mod_one]
theorem plus_next {b m n i : Nat} (hb : 0 < b) : carry b m n (i + 1) = (m / b ^ i % b + n / b ^ i % b + carry b m n i) / b ∧
    low b m n (i + 1) = low b m n i + (m / b ^ i % b + n / b ^ i % b + carry b m n i) % b * b ^ i := by
  have hp : 0 < b ^ i := Nat.pow_pos hb
  have hd := Nat.div_add_mod (m % b ^ i + n % b ^ i) (b ^ i)
  have hs : m % b ^ (i + 1) + n % b ^ (i + 1) = low b m n i + b ^ i * (m / b ^ i % b + n / b ^ i % b + carry b m n i) := by
    rw [mod_succ, mod_succ, Nat.mul_add, Nat.mul_add]
    unfold low carry
    omega
  have hl := low_lt (b := b) (m := m) (n := n) (i := i) hb
  constructor
  · unfold carry
    rw [hs, Nat.pow_succ, ← Nat.div_div_eq_div_mul, Nat.add_mul_div_left _ _ hp, Nat.div_eq_of_lt hl, Nat.zero_add]
    rfl
  · unfold low
    rw [hs, Nat.pow_succ, Nat.mod_mul, Nat.add_mul_mod_self_left, Nat.add_mul_div_left _ _ hp, Nat.div_eq_of_lt hl, Nat.zero_add, Nat.mod_eq_of_lt hl, Nat.mul_comm (b ^ i)]
    rfl
theorem plus_carry {b m n i : Nat} (hb : 0 < b) : (m / b ^ i % b + n / b ^ i % b + carry b m n i) / b = carry b m n (i + 1) := (plus_next hb).1.symm
theorem plus_set {b m n i k : Nat} (hb : 0 < b) (hi : i < k) : (fx b k (low b m n i)).set i ((m / b ^ i % b + n / b ^ i % b + carry b m n i) % b) = fx b k (low b m n (i + 1)) := by
  rw [(plus_next hb).2]
  exact fx_put hb hi (Nat.mod_lt _ hb) (by rw [Nat.div_eq_of_lt (low_lt hb)]; simp)
theorem plus_all {b m n i : Nat} (hm : m < b ^ i) (hn : n < b ^ i) : low b m n i + carry b m n i * b ^ i = m + n := by
  have := Nat.mod_add_div (m % b ^ i + n % b ^ i) (b ^ i)
  unfold low carry
  rw [Nat.mul_comm, this, Nat.mod_eq_of_lt hm, Nat.mod_eq_of_lt hn]
theorem plus_top {b m n i k : Nat} (hb : 2 ≤ b) (hm : m < b ^ i) (hn : n < b ^ i) (hi : i < k) : (fx b k (low b m n i)).set i (carry b m n i) = fx b k (m + n) := by
  rw [← plus_all hm hn]
  have := carry_le (b := b) (m := m) (n := n) (i := i) (by omega)
  exact fx_put (by omega) hi (by omega) (by rw [Nat.div_eq_of_lt (low_lt (by omega))]; simp)
theorem digit_out {b n i : Nat} (hb : 2 ≤ b) (h : nl b n ≤ i) : n / b ^ i % b = 0 := by
  rw [Nat.div_eq_of_lt ((nl_le hb).1 h)]; simp
theorem plus_lt {b m n i : Nat} (hb : 2 ≤ b) (hm : nl b m ≤ i) (hn : nl b n ≤ i) : m + n < b ^ (i + 1) := by
  have h1 := (nl_le hb).1 hm
  have h2 := (nl_le hb).1 hn
  have := Nat.mul_le_mul_left (b ^ i) hb
  rw [Nat.pow_succ]; omega

/-- What is borrowed, and what stands, behind i digits of a difference. -/
def bor (b m n i : Nat) : Nat := if m % b ^ i < n % b ^ i then 1 else 0
def dif (b m n i : Nat) : Nat := m % b ^ i + bor b m n i * b ^ i - n % b ^ i
theorem bor_le {b m n i : Nat} : bor b m n i ≤ 1 := by unfold bor; split <;> omega
theorem bor_zero {b m n : Nat} : bor b m n 0 = 0 := by simp [bor, Nat.mod_one]
theorem dif_eq {b m n i : Nat} (hb : 0 < b) : dif b m n i + n % b ^ i = m % b ^ i + bor b m n i * b ^ i ∧ dif b m n i < b ^ i := by
  have hp : 0 < b ^ i := Nat.pow_pos hb
  have h1 := Nat.mod_lt m hp
  have h2 := Nat.mod_lt n hp
  unfold dif bor
  generalize m % b ^ i = x at *
  generalize n % b ^ i = y at *
  generalize b ^ i = p at *
  split <;> omega
theorem dif_zero {b m n : Nat} : dif b m n 0 = 0 := by simp [dif, bor, Nat.mod_one]
theorem less_next {b m n i : Nat} (hb : 0 < b) : bor b m n (i + 1) = (if m / b ^ i % b < n / b ^ i % b + bor b m n i then 1 else 0) ∧
    dif b m n (i + 1) = dif b m n i + (m / b ^ i % b + b - n / b ^ i % b - bor b m n i) % b * b ^ i := by
  have hp : 0 < b ^ i := Nat.pow_pos hb
  obtain ⟨h1, h2⟩ := dif_eq (b := b) (m := m) (n := n) (i := i) hb
  obtain ⟨k1, k2⟩ := dif_eq (b := b) (m := m) (n := n) (i := i + 1) hb
  have k3 := bor_le (b := b) (m := m) (n := n) (i := i)
  have k4 := bor_le (b := b) (m := m) (n := n) (i := i + 1)
  have hx := Nat.mod_lt (m / b ^ i) hb
  have hy := Nat.mod_lt (n / b ^ i) hb
  rw [mod_succ m b i, mod_succ n b i] at k1
  rw [Nat.pow_succ] at k1 k2
  generalize dif b m n (i + 1) = D at *
  generalize dif b m n i = D0 at *
  generalize m / b ^ i % b = x at *
  generalize n / b ^ i % b = y at *
  generalize m % b ^ i = m0 at *
  generalize n % b ^ i = n0 at *
  have hb1 : bor b m n (i + 1) = 0 ∨ bor b m n (i + 1) = 1 := by omega
  have hb0 : bor b m n i = 0 ∨ bor b m n i = 1 := by omega
  have hq : ∀ u v : Nat, u < v → b ^ i * u + b ^ i ≤ b ^ i * v := fun u v h => by rw [← Nat.mul_succ]; exact Nat.mul_le_mul_left _ h
  have e1 : (x + b - y - bor b m n i) % b = if x < y + bor b m n i then x + b - y - bor b m n i else x - y - bor b m n i := by
    split
    · exact Nat.mod_eq_of_lt (by omega)
    · rw [show x + b - y - bor b m n i = (x - y - bor b m n i) + b by omega, Nat.add_mod_right]; exact Nat.mod_eq_of_lt (by omega)
  rw [e1]
  generalize bor b m n (i + 1) = c1 at *
  generalize bor b m n i = c0 at *
  generalize b ^ i = p at *
  have key : (D : Int) + p * y + n0 = m0 + p * x + c1 * (p * b) := by have := congrArg (Nat.cast : Nat → Int) k1; push_cast at this; omega
  have k5 : (D0 : Int) + n0 = m0 + c0 * p := by have := congrArg (Nat.cast : Nat → Int) h1; push_cast at this; omega
  have e2 : (D : Int) = D0 + p * (x + c1 * b - y - c0) := by grind
  have hc1 : c1 = if x < y + c0 then 1 else 0 := by
    have hD : (D : Int) < p * b := by omega
    have hD0 : (0 : Int) ≤ D := by omega
    rcases hb1 with h | h
    · subst h
      split
      · exfalso
        have h5 : (x : Int) + 0 * b - y - c0 ≤ -1 := by omega
        have : (p : Int) * (x + 0 * b - y - c0) ≤ p * (-1) := Int.mul_le_mul_of_nonneg_left h5 (by omega)
        simp only [Int.natCast_zero] at e2
        omega
      · rfl
    · subst h
      split
      · rfl
      · exfalso
        have h5 : (b : Int) ≤ x + 1 * b - y - c0 := by omega
        have : (p : Int) * b ≤ p * (x + 1 * b - y - c0) := Int.mul_le_mul_of_nonneg_left h5 (by omega)
        simp only [Int.natCast_one] at e2
        omega
  refine ⟨hc1, ?_⟩
  rw [hc1] at e2
  split at e2
  · rename_i hlt
    rw [if_pos hlt]
    have e3 : ((x + b - y - c0 : Nat) : Int) = x + 1 * b - y - c0 := by omega
    have : ((D0 + (x + b - y - c0) * p : Nat) : Int) = D0 + p * (x + 1 * b - y - c0) := by rw [Int.natCast_add, Int.natCast_mul, e3, Int.mul_comm]
    simp only [Int.natCast_one] at e2
    omega
  · rename_i hlt
    rw [if_neg hlt]
    have e3 : ((x - y - c0 : Nat) : Int) = x + 0 * b - y - c0 := by omega
    have : ((D0 + (x - y - c0) * p : Nat) : Int) = D0 + p * (x + 0 * b - y - c0) := by rw [Int.natCast_add, Int.natCast_mul, e3, Int.mul_comm]
    simp only [Int.natCast_zero] at e2
    omega
theorem less_set {b m n i k : Nat} (hb : 0 < b) (hi : i < k) : (fx b k (dif b m n i)).set i ((m / b ^ i % b + b - n / b ^ i % b - bor b m n i) % b) = fx b k (dif b m n (i + 1)) := by
  rw [(less_next hb).2]
  exact fx_put hb hi (Nat.mod_lt _ hb) (by rw [Nat.div_eq_of_lt (dif_eq hb).2]; simp)
theorem less_bor {b m n i : Nat} (hb : 0 < b) : (if m / b ^ i % b < n / b ^ i % b + bor b m n i then 1 else 0) = bor b m n (i + 1) := (less_next hb).1.symm
theorem less_all {b m n i : Nat} (hm : m < b ^ i) (h : n ≤ m) : dif b m n i = m - n := by
  unfold dif bor
  rw [Nat.mod_eq_of_lt hm, Nat.mod_eq_of_lt (Nat.lt_of_le_of_lt h hm), if_neg (by omega)]; omega

/-- The sign of a comparison. -/
def sgN (m n : Nat) : Int := if m < n then -1 else if n < m then 1 else 0
/-- What the program's comparison answers: how many digits more, where these are not as many. -/
def cmpN (b m n : Nat) : Int := if nl b m = nl b n then sgN m n else (nl b m : Int) - nl b n
theorem sgN_lt {m n : Nat} : sgN m n < 0 ↔ m < n := by unfold sgN; split <;> (try split) <;> omega
theorem sgN_eq {m n : Nat} : sgN m n = 0 ↔ m = n := by unfold sgN; split <;> (try split) <;> omega
theorem lt_of_nl {b m n : Nat} (hb : 2 ≤ b) (h : nl b m < nl b n) : m < n := by
  rcases Nat.lt_or_ge m n with h1 | h1
  · exact h1
  · have := nl_mono hb h1; omega
theorem cmpN_lt {b m n : Nat} (hb : 2 ≤ b) : cmpN b m n < 0 ↔ m < n := by
  unfold cmpN
  split
  · exact sgN_lt
  · rename_i h
    constructor
    · intro h1; exact lt_of_nl hb (by omega)
    · intro h1; have := nl_mono hb (Nat.le_of_lt h1); omega
theorem cmpN_eq {b m n : Nat} : cmpN b m n = 0 ↔ m = n := by
  unfold cmpN
  split
  · exact sgN_eq
  · rename_i h
    constructor
    · intro h1; omega
    · rintro rfl; exact absurd rfl h
theorem cmpN_gt {b m n : Nat} (hb : 2 ≤ b) : 0 < cmpN b m n ↔ n < m := by
  have h1 := cmpN_lt (m := m) (n := n) hb
  have h2 := cmpN_eq (b := b) (m := m) (n := n)
  omega
/-- The first digit that parts two numbers. -/
theorem cmp_dig {b m n i : Nat} (hb : 0 < b) (h : m / b ^ (i + 1) = n / b ^ (i + 1)) : (m / b ^ i % b = n / b ^ i % b → m / b ^ i = n / b ^ i) ∧ (m / b ^ i % b < n / b ^ i % b → m < n) := by
  have e1 := Nat.div_add_mod (m / b ^ i) b
  have e2 := Nat.div_add_mod (n / b ^ i) b
  rw [Nat.div_div_eq_div_mul, ← Nat.pow_succ, h] at e1
  rw [Nat.div_div_eq_div_mul, ← Nat.pow_succ] at e2
  refine ⟨fun h1 => by rw [← e1, ← e2, h1], fun h1 => ?_⟩
  rcases Nat.lt_or_ge m n with h2 | h2
  · exact h2
  · have := Nat.div_le_div_right (c := b ^ i) h2
    generalize m / b ^ i = x at *
    generalize n / b ^ i = y at *
    generalize b * (n / b ^ (i + 1)) = z at *
    omega
theorem div_eq_top {b m n : Nat} (hb : 2 ≤ b) (h : nl b m = nl b n) : m / b ^ nl b m = n / b ^ nl b m := by
  rw [Nat.div_eq_of_lt (lt_nl hb m), h, Nat.div_eq_of_lt (lt_nl hb n)]
end Go.Proofs.Ytgafdhpagifpcaa.Num
