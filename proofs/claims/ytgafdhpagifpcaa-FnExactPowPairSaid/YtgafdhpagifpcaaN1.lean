/-
  OWN WORK. The plain law: numbers and their digits. No program is in sight.
-/
namespace Go.Proofs.Ytgafdhpagifpcaa.Num
set_option linter.unusedVariables false

/-- The number of the digits l to the base b, the lowest first. -/
def val (b : Nat) : List Nat → Nat
  | [] => 0
  | d :: l => d + b * val b l
/-- k digits of n, the lowest first. -/
def fx (b : Nat) : Nat → Nat → List Nat
  | 0, _ => []
  | k + 1, n => n % b :: fx b k (n / b)
/-- How many digits n has. -/
def nl (b n : Nat) : Nat := if h : n = 0 ∨ b < 2 then 0 else nl b (n / b) + 1
termination_by n
decreasing_by exact Nat.div_lt_self (by omega) (by omega)
/-- The digits of n, without noughts behind. -/
def dg (b n : Nat) : List Nat := fx b (nl b n) n

theorem fx_len (b : Nat) : ∀ (k n : Nat), (fx b k n).length = k
  | 0, _ => rfl
  | k + 1, n => by simp [fx, fx_len b k]
theorem dg_len (b n : Nat) : (dg b n).length = nl b n := fx_len b _ n
theorem fx_get {b : Nat} : ∀ {k n i : Nat}, i < k → (fx b k n)[i]? = some (n / b ^ i % b)
  | k + 1, n, 0, _ => by simp [fx]
  | k + 1, n, i + 1, h => by
    simp only [fx, List.getElem?_cons_succ]
    rw [fx_get (by omega : i < k), Nat.div_div_eq_div_mul, Nat.pow_succ, Nat.mul_comm b]
theorem fx_at {b k n i : Nat} (h : i < (fx b k n).length) : (fx b k n)[i] = n / b ^ i % b := by
  have h' : i < k := by rwa [fx_len] at h
  have := fx_get (b := b) (n := n) h'
  rw [List.getElem?_eq_getElem h] at this
  exact Option.some.inj this
theorem fx_lt {b : Nat} (hb : 0 < b) {k n : Nat} : ∀ d ∈ fx b k n, d < b := by
  intro d hd
  obtain ⟨i, hi, rfl⟩ := List.getElem_of_mem hd
  rw [fx_at]; exact Nat.mod_lt _ hb
theorem val_lt {b : Nat} (hb : 0 < b) : ∀ {l : List Nat}, (∀ d ∈ l, d < b) → val b l < b ^ l.length
  | [], _ => by simp [val]
  | d :: l, h => by
    have h1 := val_lt hb (l := l) (fun x hx => h x (List.mem_cons_of_mem _ hx))
    have h2 := h d List.mem_cons_self
    simp only [val, List.length_cons, Nat.pow_succ]
    have : b * (val b l + 1) ≤ b * b ^ l.length := Nat.mul_le_mul_left b h1
    rw [Nat.mul_comm (b ^ l.length) b]
    rw [Nat.mul_add] at this
    omega
theorem val_fx {b : Nat} : ∀ {k n : Nat}, val b (fx b k n) = n % b ^ k
  | 0, n => by simp [fx, val, Nat.mod_one]
  | k + 1, n => by
    simp only [fx, val]
    rw [val_fx, Nat.pow_succ, Nat.mul_comm (b ^ k) b, Nat.mod_mul]
theorem fx_val {b : Nat} : ∀ {l : List Nat}, (∀ d ∈ l, d < b) → fx b l.length (val b l) = l
  | [], _ => rfl
  | d :: l, h => by
    have h1 := fx_val (l := l) (fun x hx => h x (List.mem_cons_of_mem _ hx))
    have h2 := h d List.mem_cons_self
    simp only [fx, val, List.length_cons]
    rw [Nat.add_mul_mod_self_left, Nat.mod_eq_of_lt h2, Nat.add_mul_div_left _ _ (by omega), Nat.div_eq_of_lt h2, Nat.zero_add, h1]
theorem fx_ext {b k m n : Nat} (h : m % b ^ k = n % b ^ k) (hb : 0 < b) : fx b k m = fx b k n := by
  rw [← fx_val (b := b) (l := fx b k m) (fx_lt hb), ← fx_val (b := b) (l := fx b k n) (fx_lt hb), val_fx, val_fx, fx_len, fx_len, h]
theorem fx_zero (b : Nat) : ∀ k, fx b k 0 = List.replicate k 0
  | 0 => rfl
  | k + 1 => by simp [fx, fx_zero b k, List.replicate_succ]
theorem fx_snoc {b : Nat} : ∀ {k n : Nat}, fx b (k + 1) n = fx b k n ++ [n / b ^ k % b]
  | 0, n => by simp [fx]
  | k + 1, n => by
    rw [fx, fx_snoc, fx, Nat.div_div_eq_div_mul, Nat.pow_succ, Nat.mul_comm b]; rfl
theorem fx_take {b n : Nat} : ∀ {j k : Nat}, j ≤ k → (fx b k n).take j = fx b j n := by
  intro j k
  induction k generalizing j n with
  | zero => intro h; obtain rfl : j = 0 := by omega
            rfl
  | succ k ih =>
    intro h
    cases j with
    | zero => rfl
    | succ j => simp only [fx, List.take_succ_cons]; rw [ih (by omega)]
theorem fx_drop {b n : Nat} : ∀ {j k : Nat}, j ≤ k → (fx b k n).drop j = fx b (k - j) (n / b ^ j) := by
  intro j k
  induction k generalizing j n with
  | zero => intro h; obtain rfl : j = 0 := by omega
            simp [fx]
  | succ k ih =>
    intro h
    cases j with
    | zero => simp
    | succ j =>
      simp only [fx, List.drop_succ_cons]
      rw [ih (by omega), Nat.div_div_eq_div_mul, Nat.pow_succ, Nat.mul_comm b, show k + 1 - (j + 1) = k - j from by omega]
/-- One digit is another one. -/
theorem fx_set {b k n m j x : Nat} (hb : 0 < b) (hj : j < k) (hx : x < b) (h : m + n / b ^ j % b * b ^ j = n + x * b ^ j) : (fx b k n).set j x = fx b k m := by
  have hp : 0 < b ^ j := Nat.pow_pos hb
  have e : ∀ i, i ≠ j → m / b ^ i % b = n / b ^ i % b := by
    intro i hi
    rcases Nat.lt_or_gt_of_ne hi with h1 | h1
    · have e1 : b ^ j = b ^ i * (b * b ^ (j - i - 1)) := by rw [← Nat.mul_assoc, ← Nat.pow_succ, ← Nat.pow_add]; congr 1; omega
      have e2 : m % (b ^ i * b) = n % (b ^ i * b) := by
        have h2 : (m + n / b ^ j % b * b ^ j) % (b ^ i * b) = (n + x * b ^ j) % (b ^ i * b) := by rw [h]
        rw [e1, show n / (b ^ i * (b * b ^ (j - i - 1))) % b * (b ^ i * (b * b ^ (j - i - 1))) = (b ^ i * b) * (b ^ (j - i - 1) * (n / (b ^ i * (b * b ^ (j - i - 1))) % b)) from by ac_rfl,
          show x * (b ^ i * (b * b ^ (j - i - 1))) = (b ^ i * b) * (b ^ (j - i - 1) * x) from by ac_rfl, Nat.add_mul_mod_self_left, Nat.add_mul_mod_self_left] at h2
        exact h2
      rw [← Nat.mod_mul_right_div_self, ← Nat.mod_mul_right_div_self, e2]
    · have e1 : b ^ i = b ^ j * b * b ^ (i - j - 1) := by rw [← Nat.pow_succ, ← Nat.pow_add]; congr 1; omega
      have e2 : m / (b ^ j * b) = n / (b ^ j * b) := by
        have hd := Nat.div_add_mod n (b ^ j)
        have hq := Nat.div_add_mod (n / b ^ j) b
        have hr := Nat.mod_lt n hp
        have hm : m = b ^ j * b * (n / b ^ j / b) + (x * b ^ j + n % b ^ j) := by
          have h3 : n = b ^ j * b * (n / b ^ j / b) + (n / b ^ j % b) * b ^ j + n % b ^ j := by
            conv => lhs; rw [← hd, ← hq]
            rw [Nat.mul_add, ← Nat.mul_assoc, Nat.mul_comm (b ^ j) (n / b ^ j % b)]
          omega
        have hlt : x * b ^ j + n % b ^ j < b ^ j * b := by
          have : (x + 1) * b ^ j ≤ b * b ^ j := Nat.mul_le_mul_right _ hx
          rw [Nat.add_mul, Nat.one_mul, Nat.mul_comm b] at this
          omega
        rw [hm, Nat.mul_add_div (Nat.mul_pos hp hb), Nat.div_eq_of_lt hlt, Nat.add_zero, Nat.div_div_eq_div_mul]
      rw [e1, ← Nat.div_div_eq_div_mul, ← Nat.div_div_eq_div_mul n, e2]
  have ej : m / b ^ j % b = x := by
    have hd := Nat.div_add_mod n (b ^ j)
    have hq := Nat.div_add_mod (n / b ^ j) b
    have hr := Nat.mod_lt n hp
    have h3 : n = b ^ j * (b * (n / b ^ j / b)) + (n / b ^ j % b) * b ^ j + n % b ^ j := by
      conv => lhs; rw [← hd, ← hq]
      rw [Nat.mul_add, Nat.mul_comm (b ^ j) (n / b ^ j % b)]
    have hm : m = b ^ j * (x + b * (n / b ^ j / b)) + n % b ^ j := by
      rw [Nat.mul_add, Nat.mul_comm (b ^ j) x]; omega
    rw [hm, Nat.mul_add_div hp, Nat.div_eq_of_lt hr, Nat.add_zero, Nat.add_mul_mod_self_left, Nat.mod_eq_of_lt hx]
  apply List.ext_getElem?
  intro i
  by_cases hi : i < k
  · rw [fx_get hi, List.getElem?_set]
    by_cases hij : j = i
    · subst hij; simp [fx_len, hj, ej]
    · rw [if_neg hij, fx_get hi, e i (Ne.symm hij)]
  · rw [List.getElem?_eq_none (by simp [fx_len]; omega), List.getElem?_eq_none (by simp [fx_len]; omega)]
/-- A digit that was 0 is written. -/
theorem fx_put {b k n j x : Nat} (hb : 0 < b) (hj : j < k) (hx : x < b) (h : n / b ^ j % b = 0) : (fx b k n).set j x = fx b k (n + x * b ^ j) :=
  fx_set hb hj hx (by rw [h, Nat.zero_mul, Nat.add_zero])

theorem nl_zero (b : Nat) : nl b 0 = 0 := by unfold nl; simp
theorem nl_pos {b n : Nat} (hb : 2 ≤ b) (hn : n ≠ 0) : nl b n = nl b (n / b) + 1 := by
  rw [nl, dif_neg (by omega)]
theorem lt_nl {b : Nat} (hb : 2 ≤ b) : ∀ n, n < b ^ nl b n := by
  intro n
  induction n using Nat.strongRecOn with
  | ind n ih =>
    by_cases hn : n = 0
    · subst hn; exact Nat.pow_pos (by omega)
    · rw [nl_pos hb hn]
      have := ih (n / b) (Nat.div_lt_self (by omega) (by omega))
      rw [Nat.pow_succ]
      exact (Nat.div_lt_iff_lt_mul (by omega)).1 this
theorem nl_le {b : Nat} (hb : 2 ≤ b) : ∀ {k n : Nat}, nl b n ≤ k ↔ n < b ^ k := by
  intro k
  induction k with
  | zero =>
    intro n
    by_cases hn : n = 0
    · subst hn; simp [nl_zero]
    · rw [nl_pos hb hn]; simp; omega
  | succ k ih =>
    intro n
    by_cases hn : n = 0
    · subst hn; simp [nl_zero]; exact Nat.pow_pos (by omega)
    · rw [nl_pos hb hn, Nat.pow_succ, ← Nat.div_lt_iff_lt_mul (by omega), ← ih]; omega
theorem nl_mono {b m n : Nat} (hb : 2 ≤ b) (h : m ≤ n) : nl b m ≤ nl b n := (nl_le hb).2 (Nat.lt_of_le_of_lt h (lt_nl hb n))
theorem pow_le_of_nl {b n : Nat} (hb : 2 ≤ b) {k : Nat} (h : k < nl b n) : b ^ k ≤ n := by
  rcases Nat.lt_or_ge n (b ^ k) with h1 | h1
  · have := (nl_le hb).2 h1; omega
  · exact h1
theorem nl_eq {b n k : Nat} (hb : 2 ≤ b) (h1 : n < b ^ (k + 1)) (h2 : b ^ k ≤ n) : nl b n = k + 1 := by
  have := (nl_le hb).2 h1
  rcases Nat.lt_or_ge k (nl b n) with h | h
  · omega
  · have := (nl_le hb).1 h; omega
theorem nl_mul {b m n : Nat} (hb : 2 ≤ b) : nl b (m * n) ≤ nl b m + nl b n := by
  rw [nl_le hb, Nat.pow_add]
  exact Nat.mul_lt_mul'' (lt_nl hb m) (lt_nl hb n)
theorem nl_add {b m n : Nat} (hb : 2 ≤ b) : nl b (m + n) ≤ max (nl b m) (nl b n) + 1 := by
  rw [nl_le hb, Nat.pow_succ]
  have h1 := (nl_le hb).1 (Nat.le_max_left (nl b m) (nl b n))
  have h2 := (nl_le hb).1 (Nat.le_max_right (nl b m) (nl b n))
  have : b ^ max (nl b m) (nl b n) * 2 ≤ b ^ max (nl b m) (nl b n) * b := Nat.mul_le_mul_left _ hb
  omega
theorem dg_zero (b : Nat) : dg b 0 = [] := by unfold dg; rw [nl_zero]; rfl
theorem dg_nil {b n : Nat} (hb : 2 ≤ b) : dg b n = [] ↔ n = 0 := by
  constructor
  · intro h
    have : nl b n = 0 := by rw [← dg_len, h]; rfl
    by_cases hn : n = 0
    · exact hn
    · rw [nl_pos hb hn] at this; omega
  · rintro rfl; exact dg_zero b
theorem nl_eq_zero {b n : Nat} (hb : 2 ≤ b) : nl b n = 0 ↔ n = 0 := by
  rw [← dg_len, List.length_eq_zero_iff, dg_nil hb]
theorem val_dg {b n : Nat} (hb : 2 ≤ b) : val b (dg b n) = n := by
  unfold dg; rw [val_fx]; exact Nat.mod_eq_of_lt (lt_nl hb n)
theorem dg_inj {b m n : Nat} (hb : 2 ≤ b) : dg b m = dg b n ↔ m = n :=
  ⟨fun h => by rw [← val_dg (n := m) hb, h, val_dg hb], fun h => by rw [h]⟩
theorem dg_lt {b n : Nat} (hb : 0 < b) : ∀ d ∈ dg b n, d < b := fx_lt hb
/-- The highest digit is not 0. -/
theorem dg_top {b n k : Nat} (hb : 2 ≤ b) (h1 : n < b ^ (k + 1)) (h2 : n / b ^ k % b ≠ 0) : dg b n = fx b (k + 1) n := by
  have : b ^ k ≤ n := by
    rcases Nat.lt_or_ge n (b ^ k) with h | h
    · rw [Nat.div_eq_of_lt h] at h2; simp at h2
    · exact h
  unfold dg; rw [nl_eq hb h1 this]
theorem top_ne {b n : Nat} (hb : 2 ≤ b) (hn : n ≠ 0) : n / b ^ (nl b n - 1) % b ≠ 0 ∧ n / b ^ (nl b n - 1) < b := by
  have h0 : 0 < nl b n := by have := mt (nl_eq_zero (n := n) hb).1 hn; omega
  have h1 := lt_nl hb n
  have h2 := pow_le_of_nl hb (show nl b n - 1 < nl b n by omega)
  have h3 : n / b ^ (nl b n - 1) < b := by
    rw [Nat.div_lt_iff_lt_mul (Nat.pow_pos (by omega)), Nat.mul_comm, ← Nat.pow_succ, show (nl b n - 1).succ = nl b n from by omega]; exact h1
  rw [Nat.mod_eq_of_lt h3]
  have : 0 < n / b ^ (nl b n - 1) := Nat.div_pos h2 (Nat.pow_pos (by omega))
  exact ⟨by omega, h3⟩
/-- A highest digit that is 0 is taken away. -/
theorem small_of_top {b n k : Nat} (hb : 0 < b) (h1 : n < b ^ (k + 1)) (h2 : n / b ^ k % b = 0) : n < b ^ k := by
  have h3 : n / b ^ k < b := by rw [Nat.div_lt_iff_lt_mul (Nat.pow_pos hb), Nat.mul_comm, ← Nat.pow_succ]; exact h1
  rw [Nat.mod_eq_of_lt h3] at h2
  exact Nat.lt_of_div_eq_zero (Nat.pow_pos hb) h2
theorem dg_getD {b n i : Nat} (hb : 2 ≤ b) : (dg b n).getD i 0 = n / b ^ i % b := by
  rw [List.getD_eq_getElem?_getD]
  by_cases h : i < nl b n
  · unfold dg; rw [fx_get h]; rfl
  · rw [List.getElem?_eq_none (by rw [dg_len]; omega)]
    have : n < b ^ i := (nl_le hb).1 (by omega)
    rw [Nat.div_eq_of_lt this]; simp
theorem dg_at {b n i : Nat} (h : i < (dg b n).length) : (dg b n)[i] = n / b ^ i % b := fx_at h
/-- A digit of a digit: to the base b ^ k, and to the base b. -/
theorem dig_dig {b k n i j : Nat} (hj : j < k) : n / (b ^ k) ^ i % b ^ k / b ^ j % b = n / b ^ (k * i + j) % b := by
  have e : b ^ k = b ^ j * (b * b ^ (k - j - 1)) := by rw [← Nat.mul_assoc, ← Nat.pow_succ, ← Nat.pow_add]; congr 1; omega
  have h : ∀ m, m % b ^ k / b ^ j % b = m / b ^ j % b := by intro m; rw [e, Nat.mod_mul_right_div_self, Nat.mod_mul_right_mod]
  rw [h, ← Nat.pow_mul, Nat.div_div_eq_div_mul, ← Nat.pow_add]
end Go.Proofs.Ytgafdhpagifpcaa.Num
