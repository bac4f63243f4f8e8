/-
  OWN WORK. The plain law: bits of a number. No program is in sight.
-/
import Derived.Test.YtgafdhpagifpcaaN11
namespace Go.Proofs.Ytgafdhpagifpcaa.Num
set_option linter.unusedVariables false

theorem b_next {c k : Nat} (hc : 0 < c) (h : c * 2 ^ k < 128) : k + 1 ≤ 7 ∧ c * 2 ^ (k + 1) < 256 := by
  have e : c * 2 ^ (k + 1) = c * 2 ^ k + c * 2 ^ k := by rw [Nat.pow_succ, ← Nat.mul_assoc, Nat.mul_two]
  refine ⟨?_, by omega⟩
  rcases Nat.lt_or_ge k 7 with h1 | h1
  · exact h1
  · have h2 := Nat.pow_le_pow_right (show 0 < 2 by decide) h1
    have h3 := Nat.mul_le_mul hc h2
    exact absurd (Nat.lt_of_le_of_lt h3 h) (by decide)
theorem pow256 (M : Nat) : 256 ^ M = 2 ^ (8 * M) := by rw [show (256 : Nat) = 2 ^ 8 from rfl, ← Nat.pow_mul]
theorem bits_top {s : ByteArray} {k : Nat} (hp : 0 < s.size) (h1 : (s.data.getD 0 0).toNat * 2 ^ k < 256) (h2 : 128 ≤ (s.data.getD 0 0).toNat * 2 ^ k) (hk : k ≤ 7) : nl 2 (beN s) = 8 * s.size - k := by
  have hb := byte_at (s := s) (i := 0) hp
  have hX := beN_lt s
  obtain ⟨M, hM⟩ : ∃ M, s.size = M + 1 := ⟨s.size - 1, by omega⟩
  rw [hM] at hb hX ⊢
  rw [show M + 1 - 1 - 0 = M by omega] at hb
  generalize (s.data.getD 0 0).toNat = c at *
  generalize beN s = X at *
  have hpM : 0 < 256 ^ M := Nat.pow_pos (by decide)
  have hlt : X / 256 ^ M < 256 := by rw [Nat.div_lt_iff_lt_mul hpM, Nat.mul_comm, ← Nat.pow_succ]; exact hX
  rw [Nat.mod_eq_of_lt hlt] at hb
  have hd := Nat.div_add_mod X (256 ^ M)
  have hr := Nat.mod_lt X hpM
  rw [hb] at hd
  have hpk : 0 < 2 ^ k := Nat.pow_pos (by decide)
  have e8 : 2 ^ (8 - k) * 2 ^ k = 256 := by rw [← Nat.pow_add, show 8 - k + k = 8 by omega]
  have e7 : 2 ^ (7 - k) * 2 ^ k = 128 := by rw [← Nat.pow_add, show 7 - k + k = 7 by omega]
  have c8 : c < 2 ^ (8 - k) := by rw [← e8] at h1; exact Nat.lt_of_mul_lt_mul_right h1
  have c7 : 2 ^ (7 - k) ≤ c := by rw [← e7] at h2; exact Nat.le_of_mul_le_mul_right h2 hpk
  have hle : 256 ^ M * 2 ^ (7 - k) ≤ X := by
    have := Nat.mul_le_mul_left (256 ^ M) c7
    omega
  have hlt2 : X < 256 ^ M * 2 ^ (8 - k) := by
    have := Nat.mul_le_mul_left (256 ^ M) (Nat.succ_le_of_lt c8)
    rw [Nat.mul_succ] at this
    omega
  rw [pow256, ← Nat.pow_add] at hle hlt2
  rw [nl_eq (b := 2) (k := 8 * M + (7 - k)) (by decide) (by rw [show 8 * M + (7 - k) + 1 = 8 * M + (8 - k) by omega]; exact hlt2) hle]
  omega
theorem byte_bit {s : ByteArray} {i : Nat} (h : i / 8 < s.size) : (s.data.getD (s.size - 1 - i / 8) 0).toNat / 2 ^ (i % 8) % 2 = beN s / 2 ^ i % 2 := by
  have hb := byte_at (s := s) (i := s.size - 1 - i / 8) (by omega)
  rw [show s.size - 1 - (s.size - 1 - i / 8) = i / 8 by omega] at hb
  rw [← hb]
  have := dig_dig (b := 2) (k := 8) (n := beN s) (i := i / 8) (j := i % 8) (Nat.mod_lt _ (by decide))
  rw [show 8 * (i / 8) + i % 8 = i by omega] at this
  exact this
theorem bit_none {s : ByteArray} {i : Nat} (h : s.size ≤ i / 8) : beN s / 2 ^ i % 2 = 0 := by
  rw [Nat.div_eq_of_lt]
  refine Nat.lt_of_lt_of_le (beN_lt s) ?_
  rw [pow256]
  exact Nat.pow_le_pow_right (by decide) (by omega)
theorem limb_bit {n i : Nat} : n / 18446744073709551616 ^ (i / 64) % 18446744073709551616 / 2 ^ (i % 64) % 2 = n / 2 ^ i % 2 := by
  have := dig_dig (b := 2) (k := 64) (n := n) (i := i / 64) (j := i % 64) (Nat.mod_lt _ (by decide))
  rw [show 64 * (i / 64) + i % 64 = i by omega] at this
  exact this
theorem limb_none {n i : Nat} (h : nl 18446744073709551616 n ≤ i / 64) : n / 2 ^ i % 2 = 0 := by
  rw [← limb_bit, digit_out (by decide) h]; simp
/-- The bits of n from the place i on, one more. -/
theorem bit_next (n i : Nat) : n / 2 ^ i = 2 * (n / 2 ^ (i + 1)) + n / 2 ^ i % 2 := by
  rw [Nat.pow_succ, ← Nat.div_div_eq_div_mul]; omega
/-! powers, from the highest bit on -/
/-- After t of the L bits of e, with a product f. -/
def pw {α : Type} (f : α → α → α) (one x : α) (e L : Nat) : Nat → α
  | 0 => one
  | t + 1 => if e / 2 ^ (L - 1 - t) % 2 = 1 then f (f (pw f one x e L t) (pw f one x e L t)) x else f (pw f one x e L t) (pw f one x e L t)
theorem pw_step {α : Type} {f : α → α → α} {one x : α} {e L i : Nat} (hi : i < L) :
    pw f one x e L (L - i) = if e / 2 ^ i % 2 = 1 then f (f (pw f one x e L (L - (i + 1))) (pw f one x e L (L - (i + 1)))) x else f (pw f one x e L (L - (i + 1))) (pw f one x e L (L - (i + 1))) := by
  rw [show L - i = L - (i + 1) + 1 by omega, pw, show L - 1 - (L - (i + 1)) = i by omega]
theorem pw_ok {α : Type} {f : α → α → α} {one x : α} {e L : Nat} {P : α → Prop} (h1 : P one) (hx : P x) (hf : ∀ a b, P a → P b → P (f a b)) : ∀ t, P (pw f one x e L t)
  | 0 => h1
  | t + 1 => by
    have := pw_ok (e := e) (L := L) h1 hx hf t
    rw [pw]
    split
    · exact hf _ _ (hf _ _ this this) hx
    · exact hf _ _ this this
end Go.Proofs.Ytgafdhpagifpcaa.Num
