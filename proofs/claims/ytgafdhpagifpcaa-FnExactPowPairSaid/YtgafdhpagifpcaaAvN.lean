/-
  OWN WORK. The calculus: whole numbers without a sign, told as natural numbers; calls that the model stands in for.
-/
import Derived.Test.YtgafdhpagifpcaaAvS
import Derived.Laws.BitsLemmas
import Derived.Laws.Bits64b
import Derived.Laws.Externs
namespace Go.Proofs.Ytgafdhpagifpcaa.Av
open Go Go.RowKit
set_option linter.unusedVariables false
set_option linter.unusedSimpArgs false
section
variable {c : Cx} {N : Nat} {H : List (List Dv)} {σ : Sg} {dst : Option Tmp} {ty : TypeId} {pos : String} {after : Array Edge} {gd : Option (Nat × Bool)}
variable {t u : TypeId} {x y : Operand} {m n : Nat}

theorem XS.addU (hx : evS σ x = some (.d (.im (.int .u64 (m : Int))))) (hy : evS σ y = some (.d (.im (.int .u64 (n : Int))))) :
    XS c ⟨dst, .binOp .add t x y u, ty, pos, after, gd⟩ H σ (.d (.im (.int .u64 (((m + n) % 18446744073709551616 : Nat) : Int)))) :=
  (XS.int hx hy rfl).toI (by rw [IntKind.wrap_u64]; omega)
theorem XS.subU (hx : evS σ x = some (.d (.im (.int .u64 (m : Int))))) (hy : evS σ y = some (.d (.im (.int .u64 (n : Int))))) (h : n ≤ m ∧ m < 18446744073709551616) :
    XS c ⟨dst, .binOp .sub t x y u, ty, pos, after, gd⟩ H σ (.d (.im (.int .u64 ((m - n : Nat) : Int)))) :=
  (XS.int hx hy rfl).toI (by rw [IntKind.wrap_u64]; omega)
theorem XS.subW (hx : evS σ x = some (.d (.im (.int .u64 (m : Int))))) (hy : evS σ y = some (.d (.im (.int .u64 (n : Int))))) (h : n < 18446744073709551616) :
    XS c ⟨dst, .binOp .sub t x y u, ty, pos, after, gd⟩ H σ (.d (.im (.int .u64 (((m + 18446744073709551616 - n) % 18446744073709551616 : Nat) : Int)))) :=
  (XS.int hx hy rfl).toI (by rw [IntKind.wrap_u64]; omega)
theorem XS.mulU (hx : evS σ x = some (.d (.im (.int .u64 (m : Int))))) (hy : evS σ y = some (.d (.im (.int .u64 (n : Int))))) :
    XS c ⟨dst, .binOp .mul t x y u, ty, pos, after, gd⟩ H σ (.d (.im (.int .u64 ((m * n % 18446744073709551616 : Nat) : Int)))) :=
  (XS.int hx hy rfl).toI (by rw [IntKind.wrap_u64, ← Int.natCast_mul]; omega)
theorem XS.quoU (hx : evS σ x = some (.d (.im (.int .u64 (m : Int))))) (hy : evS σ y = some (.d (.im (.int .u64 (n : Int))))) (hm : m < 18446744073709551616) (hn : n ≠ 0) :
    XS c ⟨dst, .binOp .quo t x y u, ty, pos, after, gd⟩ H σ (.d (.im (.int .u64 ((m / n : Nat) : Int)))) :=
  (XS.quo hx hy (by omega)).toI (by
    have : m / n ≤ m := Nat.div_le_self _ _
    rw [IntKind.wrap_u64, Int.tdiv_eq_ediv_of_nonneg (by omega), ← Int.natCast_ediv]
    generalize m / n = q at *; omega)
theorem XS.remU (hx : evS σ x = some (.d (.im (.int .u64 (m : Int))))) (hy : evS σ y = some (.d (.im (.int .u64 (n : Int))))) (hn : n ≠ 0) :
    XS c ⟨dst, .binOp .rem t x y u, ty, pos, after, gd⟩ H σ (.d (.im (.int .u64 ((m % n : Nat) : Int)))) :=
  (XS.rem hx hy (by omega)).toI (by rw [Int.tmod_eq_emod_of_nonneg (by omega), ← Int.natCast_emod])
theorem bv_nat (a : Nat) (h : a < 18446744073709551616) : (BitVec.ofInt 64 (a : Int)).toNat = a := by
  simp [BitVec.toNat_ofInt]; omega
theorem or_k (k : IntKind) (hk : k.bits = 64) {m n : Nat} (hm : m < 18446744073709551616) (hn : n < 18446744073709551616) : (BitVec.ofInt k.bits (m : Int) ||| BitVec.ofInt k.bits (n : Int)).toNat = m ||| n := by
  rw [hk, BitVec.toNat_or, bv_nat m hm, bv_nat n hn]
theorem and_k (k : IntKind) (hk : k.bits = 64) {m n : Nat} (hm : m < 18446744073709551616) (hn : n < 18446744073709551616) : (BitVec.ofInt k.bits (m : Int) &&& BitVec.ofInt k.bits (n : Int)).toNat = m &&& n := by
  rw [hk, BitVec.toNat_and, bv_nat m hm, bv_nat n hn]
theorem and_24 (k : IntKind) (hk : k.bits = 64) (a : Int) : ((BitVec.ofInt k.bits a &&& BitVec.ofInt k.bits 16777215).toNat : Int) = a % 16777216 := by
  have e : (BitVec.ofInt 64 16777215).toNat = 2 ^ 24 - 1 := by decide
  rw [hk, BitVec.toNat_and, e, Nat.and_two_pow_sub_one_eq_mod, BitVec.toNat_ofInt]
  omega
theorem XS.orU (hx : evS σ x = some (.d (.im (.int .u64 (m : Int))))) (hy : evS σ y = some (.d (.im (.int .u64 (n : Int))))) (hm : m < 18446744073709551616) (hn : n < 18446744073709551616) :
    XS c ⟨dst, .binOp .or t x y u, ty, pos, after, gd⟩ H σ (.d (.im (.int .u64 ((m ||| n : Nat) : Int)))) :=
  (XS.int hx hy rfl).toI (by
    have : m ||| n < 2 ^ 64 := Nat.or_lt_two_pow hm hn
    rw [or_k IntKind.u64 rfl hm hn, IntKind.wrap_u64]; omega)
theorem XS.andU (hx : evS σ x = some (.d (.im (.int .u64 (m : Int))))) (hy : evS σ y = some (.d (.im (.int .u64 (n : Int))))) (hm : m < 18446744073709551616) (hn : n < 18446744073709551616) :
    XS c ⟨dst, .binOp .and t x y u, ty, pos, after, gd⟩ H σ (.d (.im (.int .u64 ((m &&& n : Nat) : Int)))) :=
  (XS.int hx hy rfl).toI (by
    have : m &&& n ≤ m := Nat.and_le_left
    rw [and_k IntKind.u64 rfl hm hn, IntKind.wrap_u64]; omega)
theorem XS.shlU {k' : IntKind} (hx : evS σ x = some (.d (.im (.int .u64 (m : Int))))) (hy : evS σ y = some (.d (.im (.int k' (n : Int))))) :
    XS c ⟨dst, .binOp .shl t x y u, ty, pos, after, gd⟩ H σ (.d (.im (.int .u64 ((m * 2 ^ n % 18446744073709551616 : Nat) : Int)))) :=
  (XS.shl hx hy (by omega)).toI (by
    rw [IntKind.wrap_u64]
    simp only [IntKind.bits, Int.toNat_natCast]
    have e : (m : Int) * 2 ^ min n 64 = ((m * 2 ^ min n 64 : Nat) : Int) := by simp
    rw [e]
    rcases Nat.le_total n 64 with h | h
    · rw [Nat.min_eq_left h]; omega
    · rw [Nat.min_eq_right h]
      have : 2 ^ n = 18446744073709551616 * 2 ^ (n - 64) := by rw [show (18446744073709551616 : Nat) = 2 ^ 64 from rfl, ← Nat.pow_add]; congr 1; omega
      rw [this, ← Nat.mul_assoc, Nat.mul_comm m 18446744073709551616, Nat.mul_assoc, Nat.mul_mod_right]
      omega)
theorem XS.shrU {k' : IntKind} (hx : evS σ x = some (.d (.im (.int .u64 (m : Int))))) (hy : evS σ y = some (.d (.im (.int k' (n : Int))))) (h : n ≤ 64) :
    XS c ⟨dst, .binOp .shr t x y u, ty, pos, after, gd⟩ H σ (.d (.im (.int .u64 ((m / 2 ^ n : Nat) : Int)))) :=
  (XS.shr hx hy (by omega)).toI (by
    simp only [IntKind.bits, Int.toNat_natCast]
    rw [Nat.min_eq_left h, Int.fdiv_eq_ediv_of_nonneg _ (by exact Int.le_of_lt (Int.pow_pos (by decide)))]
    simp)
/-! int, told as a natural number -/
theorem XS.shlI {k' : IntKind} (hx : evS σ x = some (.d (.im (.int .i64 (m : Int))))) (hy : evS σ y = some (.d (.im (.int k' (n : Int))))) (hn : n ≤ 64) (h : m * 2 ^ n < 9223372036854775808) :
    XS c ⟨dst, .binOp .shl t x y u, ty, pos, after, gd⟩ H σ (.d (.im (.int .i64 ((m * 2 ^ n : Nat) : Int)))) :=
  (XS.shl hx hy (by omega)).toI (by
    simp only [IntKind.bits, Int.toNat_natCast]
    have e : (m : Int) * 2 ^ min n 64 = ((m * 2 ^ min n 64 : Nat) : Int) := by simp
    rw [e, Nat.min_eq_left hn]
    exact wrap_id (by omega))
theorem XS.shrI {k' : IntKind} (hx : evS σ x = some (.d (.im (.int .i64 (m : Int))))) (hy : evS σ y = some (.d (.im (.int k' (n : Int))))) (h : n ≤ 64) :
    XS c ⟨dst, .binOp .shr t x y u, ty, pos, after, gd⟩ H σ (.d (.im (.int .i64 ((m / 2 ^ n : Nat) : Int)))) :=
  (XS.shr hx hy (by omega)).toI (by
    simp only [IntKind.bits, Int.toNat_natCast]
    rw [Nat.min_eq_left h, Int.fdiv_eq_ediv_of_nonneg _ (by exact Int.le_of_lt (Int.pow_pos (by decide)))]
    simp)
theorem XS.quoI (hx : evS σ x = some (.d (.im (.int .i64 (m : Int))))) (hy : evS σ y = some (.d (.im (.int .i64 (n : Int))))) (hm : m < 9223372036854775808) (hn : n ≠ 0) :
    XS c ⟨dst, .binOp .quo t x y u, ty, pos, after, gd⟩ H σ (.d (.im (.int .i64 ((m / n : Nat) : Int)))) :=
  (XS.quo hx hy (by omega)).toI (by
    have : m / n ≤ m := Nat.div_le_self _ _
    rw [Int.tdiv_eq_ediv_of_nonneg (by omega), ← Int.natCast_ediv]
    generalize m / n = q at *; exact wrap_id (by omega))
theorem XS.remI (hx : evS σ x = some (.d (.im (.int .i64 (m : Int))))) (hy : evS σ y = some (.d (.im (.int .i64 (n : Int))))) (hn : n ≠ 0) :
    XS c ⟨dst, .binOp .rem t x y u, ty, pos, after, gd⟩ H σ (.d (.im (.int .i64 ((m % n : Nat) : Int)))) :=
  (XS.rem hx hy (by omega)).toI (by rw [Int.tmod_eq_emod_of_nonneg (by omega), ← Int.natCast_emod])
theorem XS.orI (hx : evS σ x = some (.d (.im (.int .i64 (m : Int))))) (hy : evS σ y = some (.d (.im (.int .i64 (n : Int))))) (hm : m < 9223372036854775808) (hn : n < 9223372036854775808) :
    XS c ⟨dst, .binOp .or t x y u, ty, pos, after, gd⟩ H σ (.d (.im (.int .i64 ((m ||| n : Nat) : Int)))) :=
  (XS.int hx hy rfl).toI (by
    have : m ||| n < 2 ^ 63 := Nat.or_lt_two_pow hm hn
    rw [or_k IntKind.i64 rfl (by omega) (by omega)]
    exact wrap_id (by omega))
/-- The lowest 24 bits of an int, whatever its sign. -/
theorem XS.mask24 {k : Int} (hx : evS σ x = some (.d (.im (.int .i64 k)))) (hy : evS σ y = some (.d (.im (.int .i64 16777215)))) :
    XS c ⟨dst, .binOp .and t x y u, ty, pos, after, gd⟩ H σ (.d (.im (.int .i64 (k % 16777216)))) :=
  (XS.int hx hy rfl).toI (by
    rw [and_24 IntKind.i64 rfl]; exact wrap_id (by omega))
theorem XS.maskN (hx : evS σ x = some (.d (.im (.int .i64 (m : Int))))) (hy : evS σ y = some (.d (.im (.int .i64 16777215)))) :
    XS c ⟨dst, .binOp .and t x y u, ty, pos, after, gd⟩ H σ (.d (.im (.int .i64 ((m % 16777216 : Nat) : Int)))) :=
  (XS.mask24 hx hy).toI (by omega)
/-- What is left of a negative one, shifted. -/
theorem XS.shrZ {k' : IntKind} {k : Int} (hx : evS σ x = some (.d (.im (.int .i64 k)))) (hy : evS σ y = some (.d (.im (.int k' 24)))) :
    XS c ⟨dst, .binOp .shr t x y u, ty, pos, after, gd⟩ H σ (.d (.im (.int .i64 (k / 16777216)))) :=
  (XS.shr hx hy (by omega)).toI (by
    simp only [IntKind.bits]
    rw [Int.fdiv_eq_ediv_of_nonneg _ (by exact Int.le_of_lt (Int.pow_pos (by decide)))]
    rfl)
/-! conversions -/
theorem XS.convU64 {k : IntKind} {s : TypeId} (hx : evS σ x = some (.d (.im (.int k (m : Int))))) (hs : (c.P.underlying s).isSome = true) (ht : intK c.P t = some .u64) :
    XS c ⟨dst, .convert s t x, ty, pos, after, gd⟩ H σ (.d (.im (.int .u64 ((m % 18446744073709551616 : Nat) : Int)))) :=
  (XS.conv hx hs ht).toI (by rw [IntKind.wrap_u64]; omega)
theorem XS.convSm {k k' : IntKind} {s : TypeId} (hx : evS σ x = some (.d (.im (.int k (m : Int))))) (hs : (c.P.underlying s).isSome = true) (ht : intK c.P t = some k') (h : k'.wrap (m : Int) = m) :
    XS c ⟨dst, .convert s t x, ty, pos, after, gd⟩ H σ (.d (.im (.int k' (m : Int)))) :=
  (XS.conv hx hs ht).toI h
theorem XS.convU8 {k : IntKind} {s : TypeId} (hx : evS σ x = some (.d (.im (.int k (m : Int))))) (hs : (c.P.underlying s).isSome = true) (ht : intK c.P t = some .u8) :
    XS c ⟨dst, .convert s t x, ty, pos, after, gd⟩ H σ (.d (.im (.int .u8 ((m % 256 : Nat) : Int)))) :=
  (XS.conv hx hs ht).toI (by rw [IntKind.wrap_u8]; omega)
theorem XS.convI {k : IntKind} {s : TypeId} (hx : evS σ x = some (.d (.im (.int k (m : Int))))) (hs : (c.P.underlying s).isSome = true) (ht : intK c.P t = some .i64) (h : m < 9223372036854775808) :
    XS c ⟨dst, .convert s t x, ty, pos, after, gd⟩ H σ (.d (.im (.int .i64 (m : Int)))) :=
  (XS.conv hx hs ht).toI (wrap_id (by omega))

/-! calls that the model stands in for -/
def imArgs (σ : Sg) : List Operand → Option (List Value)
  | [] => some []
  | x :: xs => match evS σ x, imArgs σ xs with
    | some (.d (.im v)), some vs => some (v :: vs)
    | _, _ => none
theorem imArgs_eq {bs : List (Option Nat)} {w : World} {a : Act} : ∀ (xs : List Operand) (vs : List Value), imArgs σ xs = some vs →
    (∀ x ∈ xs, ∀ s, evS σ x = some s → SRep c.T bs w s (a.eval x)) → xs.map a.eval = vs
  | [], vs, h, _ => by cases h; rfl
  | x :: xs, vs, h, hx => by
    simp only [imArgs] at h
    cases h1 : evS σ x with
    | none => rw [h1] at h; cases h
    | some s =>
      cases h2 : imArgs σ xs with
      | none => rw [h1, h2] at h; cases s <;> first | cases h | (rename_i d; cases d <;> cases h)
      | some ds' =>
        rw [h1, h2] at h
        cases s with
        | d d =>
          cases d with
          | im v =>
            cases h
            have hr := Rep.im_inv (hx x (List.mem_cons_self) _ h1)
            rw [List.map_cons, hr, imArgs_eq xs ds' h2 (fun y hy => hx y (List.mem_cons_of_mem _ hy))]
          | _ => cases h
        | p b o => cases h
        | e ds => cases h
        | r b n sz => cases h
        | u => cases h
theorem XS.ext {args : Array Operand} {ats : Array TypeId} {f : FuncId} {vals : List Value} {a b : Value} (hx : evS σ x = some (.d (.fn (.func f) [] []))) (ha : imArgs σ args.toList = some vals)
    (h : ∀ w, (callFunc f vals.toArray).run c.P w = .ok (.value (.tuple #[a, b])) w) (h1 : a.oneCell' = true) (h2 : b.oneCell' = true) :
    XS c ⟨dst, .call ⟨.value x, args, ats⟩, ty, pos, after, gd⟩ H σ (.d (.tu [.im a, .im b])) := by
  refine XS.of_val fun bs ac w hW hops => ?_
  have hxm : x ∈ (Op.operands (.call ⟨.value x, args, ats⟩)).toList := by simp [Op.operands, Call.operands]
  have hargs : ∀ y ∈ args.toList, y ∈ (Op.operands (.call ⟨.value x, args, ats⟩)).toList := by
    intro y hy; simp [Op.operands, Call.operands]; exact .inr (by simpa using hy)
  have hrx := hops x hxm _ hx
  have hra := imArgs_eq (c := c) (bs := bs) (w := w) (a := ac) args.toList vals ha (fun y hy => hops y (hargs y hy))
  cases hv : ac.eval x with
  | func g va vb =>
    rw [hv] at hrx
    generalize hd : Dv.fn (.func f) [] [] = dd at hrx
    cases hrx <;> cases hd
    rename_i va vb k1 k2 k3 k4
    obtain rfl : va = [] := List.eq_nil_of_length_eq_zero k1.symm
    obtain rfl : vb = [] := List.eq_nil_of_length_eq_zero k3.symm
    have harr : args.map ac.eval = vals.toArray := by apply Array.ext'; simpa using hra
    refine ⟨.tuple #[a, b], ?_, Rep.tu (vs := [a, b]) rfl (fun i d v hd hv => ?_)⟩
    · have := h w
      simp [execOp, resolve, hv, Deferred.ofValue, invoke, harr, this]
    · match i, hd, hv with
      | 0, hd, hv => cases hd; cases hv; exact Rep.im h1
      | 1, hd, hv => cases hd; cases hv; exact Rep.im h2
      | i + 2, hd, hv => simp at hd
  | _ => rw [hv] at hrx; generalize hd : Dv.fn (.func f) [] [] = dd at hrx; cases hrx <;> cases hd
def sub64E : Array Value → Sem Value := fun args => do
  let (x, y, b) ← Extern.MathBitsCarry.three "Sub64" args
  pure (Extern.MathBitsCarry.pair ((x + Extern.MathBitsCarry.m64 - y - b) % Extern.MathBitsCarry.m64) (if x < y + b then 1 else 0))
structure ExtB (P : Program) (f : FuncId) (e : Array Value → Sem Value) : Prop where
  out : ∀ (args : Array Value) (w : World), (callFunc f args).run P w = ((e args).run P w).andThen fun v w' => .ok (.value v) w'
theorem run_add64N {P : Program} {f : FuncId} (h : ExtB P f add64Entry) {x y k : Nat} (hk : k ≤ 1) (w : World) :
    (callFunc f [.int .u64 (x : Int), .int .u64 (y : Int), .int .u64 (k : Int)].toArray).run P w =
      .ok (.value (.tuple #[.int .u64 (((x + y + k) % 18446744073709551616 : Nat) : Int), .int .u64 (((x + y + k) / 18446744073709551616 : Nat) : Int)])) w := by
  rw [h.out, run_add64 x y k (by omega) (by omega) (by omega) (by omega)]
  simp only [Result.andThen]
  congr 5 <;> omega
theorem run_sub64N {P : Program} {f : FuncId} (h : ExtB P f sub64E) {x y k : Nat} (hk : k ≤ 1) (w : World) :
    (callFunc f [.int .u64 (x : Int), .int .u64 (y : Int), .int .u64 (k : Int)].toArray).run P w =
      .ok (.value (.tuple #[.int .u64 (((x + 18446744073709551616 - y - k) % 18446744073709551616 : Nat) : Int), .int .u64 ((if x < y + k then 1 else 0 : Nat) : Int)])) w := by
  rw [h.out]
  have : k = 0 ∨ k = 1 := by omega
  rcases this with rfl | rfl <;> rfl
end
end Go.Proofs.Ytgafdhpagifpcaa.Av
