/-
  OWN WORK. The plain law: numbers and texts of bytes. No program is in sight.
-/
import Derived.Test.YtgafdhpagifpcaaN1
namespace Go.Proofs.Ytgafdhpagifpcaa.Num
set_option linter.unusedVariables false

/-- The number of the bytes s, the highest first. -/
def beN (s : ByteArray) : Nat := val 256 (s.data.toList.reverse.map UInt8.toNat)
/-- The bytes of n, the highest first, without noughts ahead. -/
def strN (n : Nat) : ByteArray := ⟨((dg 256 n).reverse.map UInt8.ofNat).toArray⟩
/-- No nought stands ahead. -/
def canon (s : ByteArray) : Prop := ∀ h : 0 < s.data.size, s.data[0] ≠ 0
def greatOk (s : ByteArray) : Prop := s.size ≤ 160 ∧ canon s

theorem u8_lt (l : List UInt8) : ∀ d ∈ l.map UInt8.toNat, d < 256 := by
  intro d hd
  obtain ⟨x, _, rfl⟩ := List.mem_map.1 hd
  exact x.toNat_lt
theorem beN_lt (s : ByteArray) : beN s < 256 ^ s.size := by
  have := val_lt (b := 256) (by decide) (u8_lt s.data.toList.reverse)
  rwa [List.length_map, List.length_reverse, Array.length_toList] at this
theorem fx_beN (s : ByteArray) : fx 256 s.size (beN s) = s.data.toList.reverse.map UInt8.toNat := by
  have := fx_val (b := 256) (u8_lt s.data.toList.reverse)
  rwa [List.length_map, List.length_reverse, Array.length_toList] at this
theorem byte_at {s : ByteArray} {i : Nat} (h : i < s.size) : beN s / 256 ^ (s.size - 1 - i) % 256 = (s.data.getD i 0).toNat := by
  have h1 := fx_get (b := 256) (n := beN s) (show s.size - 1 - i < s.size by omega)
  have hi : i < s.data.size := h
  rw [fx_beN, List.getElem?_map, List.getElem?_reverse (by simp; have : s.size = s.data.size := rfl; omega)] at h1
  have e : s.data.toList.length - 1 - (s.size - 1 - i) = i := by simp; have : s.size = s.data.size := rfl; omega
  rw [e] at h1
  have hg : s.data.getD i 0 = s.data[i] := by rw [Array.getD_eq_getD_getElem?, Array.getElem?_eq_getElem hi]; rfl
  rw [hg]
  have : s.data.toList[i]? = some s.data[i] := by simp only [Array.getElem?_toList]; exact Array.getElem?_eq_getElem hi
  rw [this] at h1
  simpa using h1.symm
theorem nat_u8 {d : Nat} (h : d < 256) : (UInt8.ofNat d).toNat = d := by simp [UInt8.toNat_ofNat']; omega
theorem map_u8 : ∀ {l : List Nat}, (∀ d ∈ l, d < 256) → (l.map UInt8.ofNat).map UInt8.toNat = l
  | [], _ => rfl
  | d :: l, h => by
    rw [List.map_cons, List.map_cons, map_u8 (fun x hx => h x (List.mem_cons_of_mem _ hx)), nat_u8 (h d List.mem_cons_self)]
theorem u8_map : ∀ {l : List UInt8}, (l.map UInt8.toNat).map UInt8.ofNat = l
  | [] => rfl
  | d :: l => by simp [u8_map]
theorem beN_mk (l : List Nat) (h : ∀ d ∈ l, d < 256) : beN ⟨(l.reverse.map UInt8.ofNat).toArray⟩ = val 256 l := by
  unfold beN
  rw [← List.map_reverse, List.reverse_reverse] 
  congr 1
  exact map_u8 h
theorem beN_strN (n : Nat) : beN (strN n) = n := by
  unfold strN; rw [beN_mk _ (dg_lt (by decide)), val_dg (by decide)]
theorem strN_size (n : Nat) : (strN n).size = nl 256 n := by simp [strN, ByteArray.size, dg_len]
theorem strN_inj {m n : Nat} : strN m = strN n ↔ m = n := ⟨fun h => by rw [← beN_strN m, h, beN_strN], fun h => by rw [h]⟩
theorem ba_ext {s t : ByteArray} (h : s.data.toList = t.data.toList) : s = t := by
  cases s; cases t; congr 1; exact Array.ext' h
theorem size_nl {s : ByteArray} (h : canon s) : nl 256 (beN s) = s.size := by
  rcases Nat.eq_zero_or_pos s.size with h0 | h0
  · have := beN_lt s
    rw [h0] at this ⊢
    rw [show beN s = 0 by simpa using this, nl_zero]
  · have hp : 0 < s.data.size := h0
    have h1 := byte_at (s := s) (i := 0) h0
    have h2 : s.data.getD 0 0 = s.data[0] := by rw [Array.getD_eq_getD_getElem?, Array.getElem?_eq_getElem hp]; rfl
    have h3 : (s.data[0]).toNat ≠ 0 := fun e => h hp (UInt8.toNat_inj.1 (by simpa using e))
    rw [h2] at h1
    have h4 : 256 ^ (s.size - 1 - 0) ≤ beN s := by
      rcases Nat.lt_or_ge (beN s) (256 ^ (s.size - 1 - 0)) with h5 | h5
      · rw [Nat.div_eq_of_lt h5] at h1; simp at h1; omega
      · exact h5
    have := nl_eq (b := 256) (n := beN s) (k := s.size - 1) (by decide) (by rw [show s.size - 1 + 1 = s.size by omega]; exact beN_lt s) h4
    omega
theorem strN_beN {s : ByteArray} (h : canon s) : strN (beN s) = s := by
  apply ba_ext
  simp only [strN]
  have : dg 256 (beN s) = s.data.toList.reverse.map UInt8.toNat := by rw [← fx_beN, dg, size_nl h]
  rw [this, ← List.map_reverse, List.reverse_reverse, u8_map]
theorem canon_strN (n : Nat) : canon (strN n) := by
  intro h
  have h' : 0 < nl 256 n := by have := strN_size n; simp only [ByteArray.size] at this; omega
  have hn : n ≠ 0 := fun e => by subst e; rw [nl_zero] at h'; omega
  have ht := (top_ne (b := 256) (by decide) hn)
  intro e
  have hb := byte_at (s := strN n) (i := 0) h
  rw [beN_strN, strN_size] at hb
  have : (strN n).data.getD 0 0 = (strN n).data[0] := by rw [Array.getD_eq_getD_getElem?, Array.getElem?_eq_getElem h]; rfl
  rw [this, e] at hb
  exact ht.1 (by simpa using hb)
theorem beN_inj {s t : ByteArray} (hs : canon s) (ht : canon t) : beN s = beN t ↔ s = t := ⟨fun h => by rw [← strN_beN hs, h, strN_beN ht], fun h => by rw [h]⟩
theorem beN_empty : beN ⟨#[]⟩ = 0 := rfl
theorem strN_zero : strN 0 = ⟨#[]⟩ := by simp [strN, dg_zero]
theorem beN_zero {s : ByteArray} (h : canon s) : beN s = 0 ↔ s = ⟨#[]⟩ := by
  rw [← beN_empty]; exact beN_inj h (fun h => by simp at h)
theorem greatOk_strN {n : Nat} : greatOk (strN n) ↔ n < 256 ^ 160 := by
  unfold greatOk; rw [strN_size, nl_le (by decide)]; exact ⟨fun h => h.1, fun h => ⟨h, canon_strN n⟩⟩
theorem beN_great {s : ByteArray} (h : greatOk s) : beN s < 256 ^ 160 :=
  Nat.lt_of_lt_of_le (beN_lt s) (Nat.pow_le_pow_right (by decide) h.1)
theorem size_of_great {s : ByteArray} (h : greatOk s) : s.size = nl 256 (beN s) := (size_nl h.2).symm

/-- The digits that the first i bytes of s tell, each at its place. -/
def hi (s : ByteArray) (i : Nat) : Nat := beN s / 256 ^ (s.size - i) * 256 ^ (s.size - i)
theorem hi_zero (s : ByteArray) : hi s 0 = 0 := by
  unfold hi; rw [Nat.sub_zero, Nat.div_eq_of_lt (beN_lt s), Nat.zero_mul]
theorem hi_all (s : ByteArray) : hi s s.size = beN s := by unfold hi; simp
theorem hi_succ {s : ByteArray} {i : Nat} (h : i < s.size) : hi s (i + 1) = hi s i + (s.data.getD i 0).toNat * 256 ^ (s.size - 1 - i) := by
  rw [← byte_at h]
  unfold hi
  have e1 : s.size - (i + 1) = s.size - 1 - i := by omega
  have e2 : s.size - i = s.size - 1 - i + 1 := by omega
  rw [e1, e2]
  generalize s.size - 1 - i = k
  have := Nat.div_add_mod (beN s / 256 ^ k) 256
  rw [Nat.div_div_eq_div_mul, ← Nat.pow_succ] at this
  rw [Nat.pow_succ, ← Nat.mul_assoc, Nat.mul_right_comm, ← Nat.add_mul]
  rw [Nat.pow_succ] at this
  rw [Nat.mul_comm (beN s / (256 ^ k * 256)) 256, this]
theorem hi_lt (s : ByteArray) (i : Nat) : hi s i < 256 ^ s.size := Nat.lt_of_le_of_lt (Nat.div_mul_le_self _ _) (beN_lt s)
/-- A byte is written into its limb (of q bytes). -/
theorem hi_limb {s : ByteArray} {q i : Nat} (hq : 0 < q) (h : i < s.size) :
    hi s i / (256 ^ q) ^ ((s.size - 1 - i) / q) % 256 ^ q ||| (s.data.getD i 0).toNat * 256 ^ ((s.size - 1 - i) % q) =
    hi s i / (256 ^ q) ^ ((s.size - 1 - i) / q) % 256 ^ q + (s.data.getD i 0).toNat * 256 ^ ((s.size - 1 - i) % q) ∧
    hi s i / (256 ^ q) ^ ((s.size - 1 - i) / q) % 256 ^ q + (s.data.getD i 0).toNat * 256 ^ ((s.size - 1 - i) % q) < 256 ^ q := by
  have e2 : s.size - i = s.size - 1 - i + 1 := by omega
  unfold hi
  rw [e2]
  generalize s.size - 1 - i = k
  generalize beN s / 256 ^ (k + 1) = M
  have hr : k % q < q := Nat.mod_lt _ hq
  have ek : 256 ^ (k + 1) = 256 ^ (k % q + 1) * (256 ^ q) ^ (k / q) := by
    rw [← Nat.pow_mul, ← Nat.pow_add]; congr 1
    have := Nat.div_add_mod k q; omega
  have eq : 256 ^ q = 256 ^ (k % q + 1) * 256 ^ (q - (k % q + 1)) := by rw [← Nat.pow_add]; congr 1; omega
  rw [ek, ← Nat.mul_assoc, Nat.mul_div_cancel _ (Nat.pow_pos (Nat.pow_pos (by decide)))]
  have e3 : M * 256 ^ (k % q + 1) % 256 ^ q = 2 ^ (8 * (k % q + 1)) * (M % 256 ^ (q - (k % q + 1))) := by
    conv => lhs; rw [eq, Nat.mul_comm M, Nat.mul_mod_mul_left]
    rw [show (256 : Nat) = 2 ^ 8 from rfl, ← Nat.pow_mul 2 8 (k % q + 1)]
  have hb := (s.data.getD i 0).toNat_lt
  generalize (s.data.getD i 0).toNat = c at *
  have hlt : c * 256 ^ (k % q) < 2 ^ (8 * (k % q + 1)) := by
    rw [show (2 : Nat) ^ (8 * (k % q + 1)) = 256 * 256 ^ (k % q) by rw [Nat.pow_mul, Nat.pow_succ, Nat.mul_comm]]
    exact Nat.mul_lt_mul_of_pos_right hb (Nat.pow_pos (by decide))
  rw [e3]
  refine ⟨(Nat.two_pow_add_eq_or_of_lt hlt _).symm, ?_⟩
  have h4 : M % 256 ^ (q - (k % q + 1)) + 1 ≤ 256 ^ (q - (k % q + 1)) := Nat.mod_lt _ (Nat.pow_pos (by decide))
  have h5 := Nat.mul_le_mul_left (2 ^ (8 * (k % q + 1))) h4
  have e6 : 256 ^ q = 2 ^ (8 * (k % q + 1)) * 256 ^ (q - (k % q + 1)) := by
    conv => lhs; rw [eq]
    rw [show (256 : Nat) = 2 ^ 8 from rfl, ← Nat.pow_mul 2 8 (k % q + 1)]
  rw [e6]
  rw [Nat.mul_add] at h5
  omega
theorem hi_put {s : ByteArray} {q i K : Nat} (hq : 0 < q) (h : i < s.size) (hK : (s.size - 1 - i) / q < K) :
    (fx (256 ^ q) K (hi s i)).set ((s.size - 1 - i) / q) (hi s i / (256 ^ q) ^ ((s.size - 1 - i) / q) % 256 ^ q ||| (s.data.getD i 0).toNat * 256 ^ ((s.size - 1 - i) % q)) = fx (256 ^ q) K (hi s (i + 1)) := by
  obtain ⟨h1, h2⟩ := hi_limb hq h
  rw [h1]
  refine fx_set (Nat.pow_pos (by decide)) hK h2 ?_
  rw [hi_succ h, Nat.add_mul, Nat.mul_assoc (s.data.getD i 0).toNat]
  have : 256 ^ ((s.size - 1 - i) % q) * (256 ^ q) ^ ((s.size - 1 - i) / q) = 256 ^ (s.size - 1 - i) := by
    rw [← Nat.pow_mul, ← Nat.pow_add]; congr 1
    have := Nat.div_add_mod (s.size - 1 - i) q; omega
  rw [this]; omega
end Go.Proofs.Ytgafdhpagifpcaa.Num
