/-
  OWN WORK. The plain law: division, digit by digit. No program is in sight.
-/
import Derived.Test.YtgafdhpagifpcaaN6
namespace Go.Proofs.Ytgafdhpagifpcaa.Num
set_option linter.unusedVariables false

/-! ### One digit of a quotient, guessed from three and two digits -/
def dgt (b N z v w : Nat) : Nat := min (b - 1) ((N * b + z) / (v * b + w))
theorem dgt_lt {b N z v w q r : Nat} (hv : 0 < v) (hb : 0 < b) (h : q * v + r = N) (hq : r * b + z < q * w) : dgt b N z v w < q := by
  unfold dgt
  refine Nat.lt_of_le_of_lt (Nat.min_le_right _ _) ?_
  rw [Nat.div_lt_iff_lt_mul (by have := Nat.mul_pos hv hb; omega), ← h]
  have : (q * v + r) * b + z = q * v * b + (r * b + z) := by grind
  have h2 : q * (v * b + w) = q * v * b + q * w := by grind
  omega
theorem dgt_big {b N z v w q : Nat} (hq : b ≤ q) (hb : 0 < b) : dgt b N z v w < q := by
  have := Nat.min_le_left (b - 1) ((N * b + z) / (v * b + w))
  unfold dgt
  generalize min (b - 1) ((N * b + z) / (v * b + w)) = m at *
  omega
theorem dgt_eq {b N z v w q r : Nat} (hv : 0 < v) (hb : 0 < b) (h : q * v + r = N) (hq : q * w ≤ r * b + z) (h1 : q < b) (h2 : dgt b N z v w ≤ q) : dgt b N z v w = q := by
  refine Nat.le_antisymm h2 ?_
  unfold dgt
  rw [Nat.le_min, Nat.le_div_iff_mul_le (by have := Nat.mul_pos hv hb; omega), ← h]
  refine ⟨by omega, ?_⟩
  have : (q * v + r) * b + z = q * v * b + (r * b + z) := by grind
  have h2 : q * (v * b + w) = q * v * b + q * w := by grind
  omega
theorem dgt_full {b N z v w q r : Nat} (hv : 0 < v) (hb : 0 < b) (hw : w < b) (h : q * v + r = N) (hr : b ≤ r) (h1 : q < b) (h2 : dgt b N z v w ≤ q) : dgt b N z v w = q := by
  refine dgt_eq hv hb h ?_ h1 h2
  have h3 : q * w ≤ b * b := Nat.mul_le_mul (by omega) (by omega)
  have h4 : b * b ≤ r * b := Nat.mul_le_mul_right _ hr
  omega
theorem full_lt {b N v q r : Nat} (h : q * v + r = N) (hN : N < v * b + b) (hr : b ≤ r) : q < b := by
  rcases Nat.lt_or_ge q b with h1 | h1
  · exact h1
  · have := Nat.mul_le_mul_right v h1
    rw [Nat.mul_comm b v] at this
    omega
theorem dgt_top {b N z v w : Nat} (hv : 0 < v) (hb : 0 < b) (hz : z < b) : dgt b N z v w ≤ N / v := by
  unfold dgt
  refine Nat.le_trans (Nat.min_le_right _ _) ?_
  refine Nat.le_trans (Nat.div_le_div_left (Nat.le_add_right (v * b) w) (Nat.mul_pos hv hb)) ?_
  rw [Nat.mul_comm v b, ← Nat.div_div_eq_div_mul]
  have : (N * b + z) / b = N := by
    rw [Nat.mul_comm, Nat.mul_add_div hb, Nat.div_eq_of_lt hz]; omega
  rw [this]; exact Nat.le_refl _
theorem dgt_less {b N z v w : Nat} (hb : 0 < b) : dgt b N z v w < b := by
  unfold dgt; have := Nat.min_le_left (b - 1) ((N * b + z) / (v * b + w))
  generalize min (b - 1) ((N * b + z) / (v * b + w)) = m at *
  omega
theorem top_small {b N v : Nat} (hN : N < v * b + b) (hv : b ≤ 2 * v) : N / v ≤ b + 1 := by
  rcases Nat.eq_zero_or_pos v with h0 | h0
  · subst h0; simp
  · have : N / v < b + 2 := by
      rw [Nat.div_lt_iff_lt_mul h0]
      have : (b + 2) * v = v * b + 2 * v := by grind
      omega
    omega
/-- When the divisor has two digits and no more, the guess is the quotient. -/
theorem dgt_two {b N z v w Y : Nat} (hb : 0 < b) (hY : v * b + w = Y) (hN : N < Y) (hz : z < b) : dgt b N z v w = (N * b + z) / Y := by
  unfold dgt
  rw [hY]
  refine Nat.min_eq_right ?_
  have : (N * b + z) / Y < b := by
    rw [Nat.div_lt_iff_lt_mul (by omega)]
    have h1 := Nat.mul_le_mul_right b (Nat.succ_le_of_lt hN)
    rw [Nat.succ_mul] at h1
    rw [Nat.mul_comm b Y]; omega
  exact Nat.le_sub_one_of_lt this
/-- The guess is the digit, or one more. -/
theorem knuth {b P W V : Nat} (hb : 0 < b) (hP : 0 < P) (hV : b * P ≤ V) (hW : W < V * b) :
    W / V ≤ min (b - 1) ((W / P) / (V / P)) ∧ min (b - 1) ((W / P) / (V / P)) ≤ W / V + 1 := by
  have hV0 : 0 < V := Nat.lt_of_lt_of_le (Nat.mul_pos hb hP) hV
  have hVP : 0 < V / P := by
    rw [Nat.div_pos_iff]; exact ⟨hP, Nat.le_trans (Nat.le_mul_of_pos_left P hb) hV⟩
  have hq : W / V < b := by rw [Nat.div_lt_iff_lt_mul hV0, Nat.mul_comm]; exact hW
  constructor
  · rw [Nat.le_min]
    refine ⟨Nat.le_sub_one_of_lt hq, ?_⟩
    rw [Nat.le_div_iff_mul_le hVP, Nat.le_div_iff_mul_le hP, Nat.mul_assoc]
    exact Nat.le_trans (Nat.mul_le_mul_left _ (Nat.div_mul_le_self V P)) (Nat.div_mul_le_self W V)
  · generalize hm : min (b - 1) ((W / P) / (V / P)) = q
    have h1 : q ≤ b - 1 := by rw [← hm]; exact Nat.min_le_left _ _
    have h2 : q ≤ (W / P) / (V / P) := by rw [← hm]; exact Nat.min_le_right _ _
    rw [Nat.le_div_iff_mul_le hVP, Nat.le_div_iff_mul_le hP] at h2
    cases q with
    | zero => exact Nat.zero_le _
    | succ q =>
      refine Nat.succ_le_succ ?_
      rw [Nat.le_div_iff_mul_le hV0]
      have h3 := Nat.div_add_mod V P
      have h4 := Nat.mod_lt V hP
      generalize V / P = t at *
      generalize V % P = s at *
      have h5 : (q + 1) * s ≤ b * P := Nat.mul_le_mul (by omega) (by omega)
      have h6 : (q + 1) * V = (q + 1) * t * P + (q + 1) * s := by rw [← h3]; grind
      have h7 : (q + 1) * V = q * V + V := Nat.succ_mul q V
      omega
theorem div3 {b n W : Nat} : W / b ^ n = (W / b ^ (n + 2) * b + W / b ^ (n + 1) % b) * b + W / b ^ n % b := by
  have e1 : W / b ^ (n + 1) = W / b ^ n / b := by rw [Nat.pow_succ, Nat.div_div_eq_div_mul]
  have e2 : W / b ^ (n + 2) = W / b ^ (n + 1) / b := by rw [Nat.pow_succ b (n + 1), Nat.div_div_eq_div_mul]
  rw [e2, Nat.mul_comm (W / b ^ (n + 1) / b) b, Nat.div_add_mod, e1, Nat.mul_comm (W / b ^ n / b) b, Nat.div_add_mod]
theorem div2 {b n V : Nat} : V / b ^ n = V / b ^ (n + 1) * b + V / b ^ n % b := by
  have e1 : V / b ^ (n + 1) = V / b ^ n / b := by rw [Nat.pow_succ, Nat.div_div_eq_div_mul]
  rw [e1, Nat.mul_comm (V / b ^ n / b) b, Nat.div_add_mod]
/-- The guess out of the digits of u and v, at the place j. -/
theorem knuth_at {b n j U V : Nat} (hb : 0 < b) (hV : b ^ (n + 1) ≤ V) (hU : U < V * b ^ (j + 1)) :
    U / b ^ j / V ≤ dgt b (U / b ^ (j + n + 2) * b + U / b ^ (j + n + 1) % b) (U / b ^ (j + n) % b) (V / b ^ (n + 1)) (V / b ^ n % b) ∧
    dgt b (U / b ^ (j + n + 2) * b + U / b ^ (j + n + 1) % b) (U / b ^ (j + n) % b) (V / b ^ (n + 1)) (V / b ^ n % b) ≤ U / b ^ j / V + 1 := by
  unfold dgt
  rw [← div3, ← div2, Nat.pow_add, ← Nat.div_div_eq_div_mul]
  refine knuth hb (Nat.pow_pos hb) (by rw [Nat.mul_comm, ← Nat.pow_succ]; exact hV) ?_
  rw [Nat.div_lt_iff_lt_mul (Nat.pow_pos hb), Nat.mul_assoc, Nat.mul_comm b, ← Nat.pow_succ]
  exact hU

/-! ### One digit set -/
def setd (b n j x : Nat) : Nat := n - n / b ^ j % b * b ^ j + x * b ^ j
theorem setd_eq {b n j x : Nat} : setd b n j x + n / b ^ j % b * b ^ j = n + x * b ^ j := by
  have hle : n / b ^ j % b * b ^ j ≤ n := Nat.le_trans (Nat.mul_le_mul_right _ (Nat.mod_le _ _)) (Nat.div_mul_le_self _ _)
  unfold setd; omega
theorem setd_set {b k n j x : Nat} (hb : 0 < b) (hj : j < k) (hx : x < b) : (fx b k n).set j x = fx b k (setd b n j x) := fx_set hb hj hx setd_eq
theorem setd_parts {b n j x : Nat} (hb : 0 < b) : setd b n j x = (n / b ^ (j + 1) * b + x) * b ^ j + n % b ^ j := by
  have h1 := Nat.div_add_mod n (b ^ j)
  have h2 := Nat.div_add_mod (n / b ^ j) b
  have e1 : n / b ^ (j + 1) = n / b ^ j / b := by rw [Nat.pow_succ, Nat.div_div_eq_div_mul]
  have h3 := setd_eq (b := b) (n := n) (j := j) (x := x)
  rw [e1]
  generalize n / b ^ j / b = s at *
  generalize hd : n / b ^ j % b = d at *
  generalize b ^ j = p at *
  generalize n % p = r at *
  have h4 : n = (s * b + d) * p + r := by rw [← h1, ← h2]; grind
  have h5 : (s * b + d) * p = s * b * p + d * p := Nat.add_mul _ _ _
  have h6 : (s * b + x) * p = s * b * p + x * p := Nat.add_mul _ _ _
  omega
theorem setd_div {b n j x : Nat} (hb : 0 < b) (hx : x < b) : setd b n j x / b ^ (j + 1) = n / b ^ (j + 1) := by
  have hp : 0 < b ^ j := Nat.pow_pos hb
  rw [setd_parts hb, Nat.pow_succ, ← Nat.div_div_eq_div_mul, Nat.mul_comm _ (b ^ j), Nat.mul_add_div hp, Nat.div_eq_of_lt (Nat.mod_lt _ hp), Nat.add_zero, Nat.mul_comm _ b, Nat.mul_add_div hb, Nat.div_eq_of_lt hx, Nat.add_zero]
theorem setd_dig {b n j x : Nat} (hb : 0 < b) (hx : x < b) : setd b n j x / b ^ j = n / b ^ (j + 1) * b + x := by
  have hp : 0 < b ^ j := Nat.pow_pos hb
  rw [setd_parts hb, Nat.mul_comm _ (b ^ j), Nat.mul_add_div hp, Nat.div_eq_of_lt (Nat.mod_lt _ hp), Nat.add_zero]
theorem div_up {b m n i : Nat} (h : m / b ^ i = n / b ^ i) : m / b ^ (i + 1) = n / b ^ (i + 1) := by
  rw [Nat.pow_succ, ← Nat.div_div_eq_div_mul, ← Nat.div_div_eq_div_mul, h]

/-! ### Multiply and take away -/
/-- What stands after i digits of v: u less q times so much of v, and what is still owed. -/
structure MS (b q V j U i U' C : Nat) : Prop where
  sum : U' + q * (V % b ^ i) * b ^ j = U + C * b ^ (i + j)
  up : U' / b ^ (i + j) = U / b ^ (i + j)
  owe : C < b
theorem MS.start {b q V j U : Nat} (hb : 0 < b) : MS b q V j U 0 U 0 := ⟨by simp [Nat.mod_one], rfl, hb⟩
theorem MS.next {b q V j U i U' C e C' : Nat} (hb : 0 < b) (hq : q < b) (h : MS b q V j U i U' C) (he : e < b) (hd : e + (q * (V / b ^ i % b) + C) = U' / b ^ (i + j) % b + C' * b) : MS b q V j U (i + 1) (setd b U' (i + j) e) C' := by
  have hu := setd_eq (b := b) (n := U') (j := i + j) (x := e)
  have hB : b ^ (i + j) = b ^ i * b ^ j := Nat.pow_add _ _ _
  refine ⟨?_, ?_, ?_⟩
  · have hs := h.sum
    rw [mod_succ, show i + 1 + j = i + j + 1 by omega, Nat.pow_succ]
    generalize setd b U' (i + j) e = U2 at *
    generalize U' / b ^ (i + j) % b = d at *
    generalize V / b ^ i % b = y at *
    generalize V % b ^ i = v at *
    generalize b ^ (i + j) = B at *
    generalize b ^ i = bi at *
    generalize b ^ j = bj at *
    clear h
    grind
  · rw [show i + 1 + j = i + j + 1 by omega, setd_div hb he]
    exact div_up h.up
  · have h1 : q * (V / b ^ i % b) ≤ (b - 1) * (b - 1) := Nat.mul_le_mul (by omega) (by have := Nat.mod_lt (V / b ^ i) hb; omega)
    have h2 := h.owe
    obtain ⟨a, rfl⟩ : ∃ a, b = a + 1 := ⟨b - 1, by omega⟩
    simp only [Nat.add_sub_cancel] at h1
    rcases Nat.lt_or_ge C' (a + 1) with h3 | h3
    · exact h3
    · have h4 := Nat.mul_le_mul_right (a + 1) h3
      have h5 : (a + 1) * (a + 1) = a * a + a + a + 1 := by grind
      omega
/-- After the top digit: what is owed says whether the guess was one too much. -/
theorem MS.last {b q V j U n U' C e o : Nat} (hb : 0 < b) (h : MS b q V j U n U' C) (hV : V < b ^ n) (he : e < b) (hd : e + C = U / b ^ (n + j) % b + o * b) :
    setd b U' (n + j) e + q * V * b ^ j = U + o * b ^ (n + j + 1) ∧ setd b U' (n + j) e / b ^ (n + j + 1) = U / b ^ (n + j + 1) := by
  have hu := setd_eq (b := b) (n := U') (j := n + j) (x := e)
  have hs := h.sum
  rw [Nat.mod_eq_of_lt hV] at hs
  refine ⟨?_, by rw [setd_div hb he]; exact div_up h.up⟩
  rw [h.up] at hu
  rw [Nat.pow_succ]
  generalize setd b U' (n + j) e = U2 at *
  generalize U / b ^ (n + j) % b = d at *
  generalize b ^ (n + j) = B at *
  generalize b ^ j = bj at *
  clear h
  grind
/-- Not owed: the guess was right. -/
theorem MS.right {b q V j U n U2 : Nat} (hb : 0 < b) (hV : 0 < V) (hq : U / b ^ j / V ≤ q) (h : U2 + q * V * b ^ j = U + 0 * b ^ (n + j + 1)) : q = U / b ^ j / V ∧ U2 < V * b ^ j := by
  have hp : 0 < b ^ j := Nat.pow_pos hb
  have h1 : q ≤ U / b ^ j / V := by
    rw [Nat.le_div_iff_mul_le hV, Nat.le_div_iff_mul_le hp]; omega
  have h2 : q = U / b ^ j / V := by omega
  refine ⟨h2, ?_⟩
  have h3 : U < (q + 1) * V * b ^ j := by
    rw [← Nat.div_lt_iff_lt_mul hp, ← Nat.div_lt_iff_lt_mul hV]; omega
  have h4 : (q + 1) * V * b ^ j = q * V * b ^ j + V * b ^ j := by grind
  omega
/-- Owed: the guess was one too much. -/
theorem MS.over {b q V j U n U2 : Nat} (hb : 0 < b) (hV : 0 < V) (hq : q ≤ U / b ^ j / V + 1) (hU2 : U2 < b ^ (n + j + 1)) (h : U2 + q * V * b ^ j = U + 1 * b ^ (n + j + 1)) :
    q = U / b ^ j / V + 1 ∧ U2 + V * b ^ j = U - U / b ^ j / V * V * b ^ j + b ^ (n + j + 1) ∧ U / b ^ j / V * V * b ^ j ≤ U ∧ U - U / b ^ j / V * V * b ^ j < V * b ^ j := by
  have hp : 0 < b ^ j := Nat.pow_pos hb
  have h1 : ¬ q ≤ U / b ^ j / V := by
    rw [Nat.le_div_iff_mul_le hV, Nat.le_div_iff_mul_le hp]; omega
  have h2 : q = U / b ^ j / V + 1 := by omega
  have h3 : U < q * V * b ^ j := by
    rw [← Nat.div_lt_iff_lt_mul hp, ← Nat.div_lt_iff_lt_mul hV]; omega
  have h5 : U / b ^ j / V * V * b ^ j ≤ U := Nat.le_trans (Nat.mul_le_mul_right _ (Nat.div_mul_le_self _ _)) (Nat.div_mul_le_self _ _)
  have h4 : q * V * b ^ j = U / b ^ j / V * V * b ^ j + V * b ^ j := by rw [h2]; grind
  exact ⟨h2, by omega, h5, by omega⟩

/-! ### Adding back -/
structure AB (b V j U i U' C : Nat) : Prop where
  sum : U' + C * b ^ (i + j) = U + (V % b ^ i) * b ^ j
  up : U' / b ^ (i + j) = U / b ^ (i + j)
  car : C ≤ 1
theorem AB.start {b V j U : Nat} : AB b V j U 0 U 0 := ⟨by simp [Nat.mod_one], rfl, by omega⟩
theorem AB.next {b V j U i U' C e C' : Nat} (hb : 0 < b) (h : AB b V j U i U' C) (he : e < b) (hd : e + C' * b = U' / b ^ (i + j) % b + V / b ^ i % b + C) : AB b V j U (i + 1) (setd b U' (i + j) e) C' := by
  have hu := setd_eq (b := b) (n := U') (j := i + j) (x := e)
  have hB : b ^ (i + j) = b ^ i * b ^ j := Nat.pow_add _ _ _
  refine ⟨?_, ?_, ?_⟩
  · have hs := h.sum
    rw [mod_succ, show i + 1 + j = i + j + 1 by omega, Nat.pow_succ]
    generalize setd b U' (i + j) e = U2 at *
    generalize U' / b ^ (i + j) % b = d at *
    generalize V / b ^ i % b = y at *
    generalize V % b ^ i = v at *
    generalize b ^ (i + j) = B at *
    generalize b ^ i = bi at *
    generalize b ^ j = bj at *
    clear h
    grind
  · rw [show i + 1 + j = i + j + 1 by omega, setd_div hb he]
    exact div_up h.up
  · have h1 := Nat.mod_lt (U' / b ^ (i + j)) hb
    have h2 := Nat.mod_lt (V / b ^ i) hb
    have h3 := h.car
    rcases Nat.lt_or_ge C' 2 with h4 | h4
    · omega
    · have := Nat.mul_le_mul_right b h4; omega
/-- After the top digit all is as it should be. -/
theorem AB.last {b V j R n U U' C e : Nat} (hb : 1 < b) (h : AB b V j U n U' C) (hV : V < b ^ n) (hR : R < V * b ^ j) (hU : U < b ^ (n + j + 1)) (hs : U + V * b ^ j = R + b ^ (n + j + 1)) (he : e = (U' / b ^ (n + j) % b + C) % b) :
    setd b U' (n + j) e = R := by
  have h1 := h.sum
  rw [Nat.mod_eq_of_lt hV] at h1
  have hR2 : R < b ^ (n + j) := Nat.lt_of_lt_of_le hR (by rw [Nat.pow_add]; exact Nat.mul_le_mul_right _ (Nat.le_of_lt hV))
  have hc := h.car
  have hp : 0 < b ^ (n + j) := Nat.pow_pos (by omega)
  have hU' : U' < b ^ (n + j + 1) := by
    have h0 : U' / b ^ (n + j + 1) = 0 := by rw [div_up h.up]; exact Nat.div_eq_of_lt hU
    have h2 := Nat.div_add_mod U' (b ^ (n + j + 1))
    rw [h0] at h2
    have := Nat.mod_lt U' (show 0 < b ^ (n + j + 1) from Nat.pow_pos (by omega))
    omega
  have hC : C = 1 := by
    rcases Nat.lt_or_ge C 1 with h2 | h2
    · obtain rfl : C = 0 := by omega
      omega
    · omega
  subst hC
  have hsum : U' = R + (b - 1) * b ^ (n + j) := by
    obtain ⟨a, rfl⟩ : ∃ a, b = a + 1 := ⟨b - 1, by omega⟩
    rw [Nat.pow_succ] at *
    simp only [Nat.add_sub_cancel]
    generalize (a + 1) ^ (n + j) = B at *
    have : B * (a + 1) = a * B + B := by grind
    omega
  have hdig : U' / b ^ (n + j) = b - 1 := by
    rw [hsum, Nat.add_mul_div_right _ _ hp, Nat.div_eq_of_lt hR2, Nat.zero_add]
  have he0 : e = 0 := by
    rw [he, hdig, Nat.mod_eq_of_lt (show b - 1 < b by omega), show b - 1 + 1 = b by omega, Nat.mod_self]
  have h3 := setd_eq (b := b) (n := U') (j := n + j) (x := e)
  rw [hdig, Nat.mod_eq_of_lt (show b - 1 < b by omega), he0] at h3
  rw [he0]
  omega

/-! ### The outer rounds -/
/-- At the place j: what of a is divided, and what is left. -/
structure DV (b A V j U Q : Nat) : Prop where
  sum : A = Q * V + U
  low : U < V * b ^ j
  fill : Q % b ^ j = 0
theorem DV.next {b A V j U Q U2 q : Nat} (hb : 0 < b) (h : DV b A V (j + 1) U Q) (hq : q = U / b ^ j / V) (h1 : U2 + q * V * b ^ j = U) (h2 : U2 < V * b ^ j) : DV b A V j U2 (Q + q * b ^ j) ∧ Q / b ^ j % b = 0 := by
  have hf := h.fill
  have hdv : b ^ (j + 1) ∣ Q := Nat.dvd_of_mod_eq_zero hf
  obtain ⟨t, rfl⟩ := hdv
  have hp : 0 < b ^ j := Nat.pow_pos hb
  refine ⟨⟨?_, h2, ?_⟩, ?_⟩
  · rw [h.sum, ← h1]; grind
  · rw [Nat.pow_succ, Nat.mul_assoc, Nat.mul_comm q, ← Nat.mul_add, Nat.mul_mod_right]
  · rw [Nat.pow_succ, Nat.mul_assoc, Nat.mul_div_cancel_left _ hp, Nat.mul_mod_right]
theorem DV.done {b a d s U Q : Nat} (hd : 0 < d) (h : DV b (a * 2 ^ s) (d * 2 ^ s) 0 U Q) : Q = a / d ∧ U / 2 ^ s = a % d := by
  have hp : 0 < 2 ^ s := Nat.pow_pos (by decide)
  have h1 := h.sum
  have h2 := h.low
  simp only [Nat.pow_zero, Nat.mul_one] at h2
  have h3 : Q = a * 2 ^ s / (d * 2 ^ s) := by
    rw [h1, Nat.mul_comm Q, Nat.mul_add_div (Nat.mul_pos hd hp), Nat.div_eq_of_lt h2, Nat.add_zero]
  rw [Nat.mul_div_mul_right _ _ hp] at h3
  refine ⟨h3, ?_⟩
  have h4 : U = a % d * 2 ^ s := by
    have h5 := Nat.div_add_mod a d
    rw [← h3] at h5
    have h6 : a * 2 ^ s = Q * (d * 2 ^ s) + a % d * 2 ^ s := by
      generalize a % d = r at *
      rw [← h5]
      grind
    omega
  rw [h4, Nat.mul_div_cancel _ hp]
theorem DV.start {b A V K n : Nat} (hb : 0 < b) (hA : A < b ^ (K + 1)) (hV : b ^ n ≤ V) (hn : n ≤ K) : DV b A V (K - n + 1) A 0 := by
  refine ⟨by omega, Nat.lt_of_lt_of_le hA ?_, Nat.zero_mod _⟩
  have : b ^ (K + 1) = b ^ n * b ^ (K - n + 1) := by rw [← Nat.pow_add]; congr 1; omega
  rw [this]
  exact Nat.mul_le_mul_right _ hV

/-! ### By one digit -/
theorem short_q {m v b d : Nat} (hv : 0 < v) : (m * b + d) / v = m / v * b + (m % v * b + d) / v := by
  have h := Nat.div_add_mod m v
  have e : m * b + d = v * (m / v * b) + (m % v * b + d) := by
    conv => lhs; rw [← h]
    grind
  rw [e, Nat.mul_add_div hv]
theorem short_r {m v b d : Nat} : (m * b + d) % v = (m % v * b + d) % v := by
  have h := Nat.div_add_mod m v
  have e : m * b + d = (m % v * b + d) + v * (m / v * b) := by
    conv => lhs; rw [← h]
    grind
  rw [e, Nat.add_mul_mod_self_left]
theorem short_lt {m v b d : Nat} (hv : 0 < v) (hd : d < b) : (m % v * b + d) / v < b := by
  rw [Nat.div_lt_iff_lt_mul hv]
  have h := Nat.mod_lt m hv
  have h2 := Nat.mul_le_mul_right b (Nat.succ_le_of_lt h)
  rw [Nat.succ_mul] at h2
  rw [Nat.mul_comm b v]; omega
theorem short_set {a v b k i : Nat} (hb : 0 < b) (hv : 0 < v) (hi : i < k) :
    (fx b k (a / b ^ (i + 1) / v * b ^ (i + 1))).set i ((a / b ^ (i + 1) % v * b + a / b ^ i % b) / v) = fx b k (a / b ^ i / v * b ^ i) := by
  have hd := Nat.mod_lt (a / b ^ i) hb
  rw [fx_put hb hi (short_lt hv hd)]
  · congr 1
    have e := short_q (m := a / b ^ (i + 1)) (b := b) (d := a / b ^ i % b) hv
    rw [← div2] at e
    rw [e, Nat.pow_succ b i]
    generalize a / (b ^ i * b) / v = t
    rw [Nat.add_mul, Nat.mul_assoc, Nat.mul_comm b]
  · rw [Nat.pow_succ, Nat.mul_comm (b ^ i) b, ← Nat.mul_assoc, Nat.mul_div_cancel _ (Nat.pow_pos hb), Nat.mul_mod_left]
theorem short_mod {a v b i : Nat} : (a / b ^ (i + 1) % v * b + a / b ^ i % b) % v = a / b ^ i % v := by
  conv => rhs; rw [div2 (V := a) (n := i)]
  exact short_r.symm

/-! ### Shifts -/
theorem shl_part {a b s i : Nat} (hb : 0 < b) (hs : 2 ^ s ≤ b) : a % b ^ i * 2 ^ s / b ^ i < 2 ^ s := by
  rw [Nat.div_lt_iff_lt_mul (Nat.pow_pos hb), Nat.mul_comm (2 ^ s)]
  exact Nat.mul_lt_mul_of_pos_right (Nat.mod_lt _ (Nat.pow_pos hb)) (Nat.pow_pos (by decide))
theorem shl_next {a b s i : Nat} : a % b ^ (i + 1) * 2 ^ s = a % b ^ i * 2 ^ s + a / b ^ i % b * 2 ^ s * b ^ i := by
  rw [mod_succ]; grind

/-! ### Two words by one -/
theorem or_add {m n k : Nat} (hn : n < 2 ^ k) : (m * 2 ^ k) ||| n = m * 2 ^ k + n := by
  rw [Nat.mul_comm, Nat.two_pow_add_eq_or_of_lt hn]
theorem norm64 {v s : Nat} (hv0 : 0 < v) (hv : v < 18446744073709551616) (hs : s = 64 - nl 2 v) : s ≤ 63 ∧ v * 2 ^ s < 18446744073709551616 ∧ 9223372036854775808 ≤ v * 2 ^ s := by
  have h1 : nl 2 v ≤ 64 := (nl_le (by decide)).2 hv
  have h2 : nl 2 v ≠ 0 := fun h => by rw [nl_eq_zero (by decide)] at h; omega
  have h3 := lt_nl (b := 2) (by decide) v
  have h4 := pow_le_of_nl (b := 2) (n := v) (by decide) (k := nl 2 v - 1) (by omega)
  have e1 : 2 ^ nl 2 v * 2 ^ s = 18446744073709551616 := by rw [← Nat.pow_add, hs, show nl 2 v + (64 - nl 2 v) = 64 by omega]
  have e2 : 2 ^ (nl 2 v - 1) * 2 ^ s = 9223372036854775808 := by rw [← Nat.pow_add, hs, show nl 2 v - 1 + (64 - nl 2 v) = 63 by omega]
  have hp : 0 < 2 ^ s := Nat.pow_pos (by decide)
  refine ⟨by omega, ?_, ?_⟩
  · rw [← e1]; exact Nat.mul_lt_mul_of_pos_right h3 hp
  · rw [← e2]; exact Nat.mul_le_mul_right _ h4
theorem shr_shl {y s : Nat} (hs : s ≤ 64) : y / 2 ^ (64 - s) = y * 2 ^ s / 18446744073709551616 := by
  have : 18446744073709551616 = 2 ^ (64 - s) * 2 ^ s := by rw [← Nat.pow_add, show 64 - s + s = 64 by omega]
  rw [this, Nat.mul_div_mul_right _ _ (Nat.pow_pos (by decide))]
theorem div64_setup {x y v s : Nat} (hx : x < v) (hy : y < 18446744073709551616) (hv : v < 18446744073709551616) (hs : s = 64 - nl 2 v) :
    ∃ X Y Z, v * 2 ^ s % 18446744073709551616 = Y ∧ ((x * 2 ^ s % 18446744073709551616) ||| (y / 2 ^ (64 - s))) = X ∧ y * 2 ^ s % 18446744073709551616 = Z ∧ X * 18446744073709551616 + Z = (x * 18446744073709551616 + y) * 2 ^ s ∧
      v * 2 ^ s = Y ∧ X < Y ∧ 9223372036854775808 ≤ Y ∧ Y < 18446744073709551616 ∧ Z < 18446744073709551616 ∧ s ≤ 63 := by
  obtain ⟨h1, h2, h3⟩ := norm64 (by omega) hv hs
  have hp : 0 < 2 ^ s := Nat.pow_pos (by decide)
  have hxs : (x + 1) * 2 ^ s ≤ v * 2 ^ s := Nat.mul_le_mul_right _ hx
  rw [Nat.succ_mul] at hxs
  have hy2 : y * 2 ^ s < 18446744073709551616 * 2 ^ s := Nat.mul_lt_mul_of_pos_right hy hp
  have hyd : y / 2 ^ (64 - s) < 2 ^ s := by
    rw [shr_shl (by omega), Nat.div_lt_iff_lt_mul (by decide), Nat.mul_comm (2 ^ s)]; exact hy2
  have e1 : x * 2 ^ s % 18446744073709551616 = x * 2 ^ s := Nat.mod_eq_of_lt (by omega)
  refine ⟨_, _, _, rfl, rfl, rfl, ?_, ?_, ?_, ?_, ?_, Nat.mod_lt _ (by decide), h1⟩
  · rw [e1, or_add hyd, shr_shl (by omega), Nat.add_mul (x * 18446744073709551616) y]
    have := Nat.div_add_mod (y * 2 ^ s) 18446744073709551616
    have e2 : x * 18446744073709551616 * 2 ^ s = x * 2 ^ s * 18446744073709551616 := Nat.mul_right_comm _ _ _
    rw [e2]
    generalize x * 2 ^ s = p at *
    generalize y * 2 ^ s = q at *
    omega
  · exact (Nat.mod_eq_of_lt h2).symm
  · rw [e1, or_add hyd, Nat.mod_eq_of_lt h2]; omega
  · rw [Nat.mod_eq_of_lt h2]; exact h3
  · rw [Nat.mod_eq_of_lt h2]; exact h2
theorem div64_two {X Y Z c : Nat} (hc : 0 < c) (hY : 0 < Y) : (X * (c * c) + Z) / Y = (X * c + Z / c) / Y * c + ((X * c + Z / c) % Y * c + Z % c) / Y ∧ (X * (c * c) + Z) % Y = ((X * c + Z / c) % Y * c + Z % c) % Y := by
  have e : X * (c * c) + Z = (X * c + Z / c) * c + Z % c := by
    have := Nat.div_add_mod Z c
    generalize Z / c = p at *
    generalize Z % c = q at *
    rw [← this]; grind
  rw [e]
  exact ⟨short_q hY, short_r⟩
theorem div64_end {X Y Z x y v s : Nat} (hv : 0 < v) (h : X * 18446744073709551616 + Z = (x * 18446744073709551616 + y) * 2 ^ s) (hY : v * 2 ^ s = Y) :
    (X * 4294967296 + Z / 4294967296) / Y * 4294967296 + ((X * 4294967296 + Z / 4294967296) % Y * 4294967296 + Z % 4294967296) / Y = (x * 18446744073709551616 + y) / v ∧
    ((X * 4294967296 + Z / 4294967296) % Y * 4294967296 + Z % 4294967296) % Y / 2 ^ s = (x * 18446744073709551616 + y) % v := by
  have hp : 0 < 2 ^ s := Nat.pow_pos (by decide)
  obtain ⟨h1, h2⟩ := div64_two (X := X) (Y := Y) (Z := Z) (c := 4294967296) (by decide) (by rw [← hY]; exact Nat.mul_pos hv hp)
  rw [← h1, ← h2, show (4294967296 : Nat) * 4294967296 = 18446744073709551616 from rfl, h, ← hY, Nat.mul_div_mul_right _ _ hp, Nat.mul_mod_mul_right, Nat.mul_div_cancel _ hp]
  exact ⟨rfl, rfl⟩
/-- What is left, told in words that wrap. -/
theorem rest_wrap {N q Y c z : Nat} (h : q = (N * c + z) / Y) (hY : Y < 18446744073709551616) (hY0 : 0 < Y) :
    ((N * c % 18446744073709551616 + z) % 18446744073709551616 + 18446744073709551616 - q * Y % 18446744073709551616) % 18446744073709551616 = (N * c + z) % Y := by
  have h1 := Nat.div_add_mod (N * c + z) Y
  have h2 := Nat.mod_lt (N * c + z) hY0
  rw [← h, Nat.mul_comm] at h1
  generalize q * Y = m at *
  generalize (N * c + z) % Y = r at *
  generalize N * c = k at *
  omega
end Go.Proofs.Ytgafdhpagifpcaa.Num
