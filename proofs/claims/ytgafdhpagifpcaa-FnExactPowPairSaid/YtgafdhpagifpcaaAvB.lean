/-
  OWN WORK. Single bits.
-/
import Derived.Test.YtgafdhpagifpcaaAvC
namespace Go.Proofs.Ytgafdhpagifpcaa.Av
open Go Go.RowKit
set_option linter.unusedVariables false
section
variable {c : Cx} {H : List (List Dv)} {σ : Sg} {dst : Option Tmp} {ty t u : TypeId} {pos : String} {after : Array Edge} {gd : Option (Nat × Bool)} {x y : Operand} {m n : Nat}
theorem XS.bitI (hx : evS σ x = some (.d (.im (.int .i64 (m : Int))))) (hy : evS σ y = some (.d (.im (.int .i64 1)))) (hm : m < 9223372036854775808) :
    XS c ⟨dst, .binOp .and t x y u, ty, pos, after, gd⟩ H σ (.d (.im (.int .i64 ((m % 2 : Nat) : Int)))) :=
  (XS.int hx hy rfl).toI (by
    have h := and_k IntKind.i64 rfl (m := m) (n := 1) (by omega) (by decide)
    rw [Nat.and_one_is_mod] at h
    rw [show (1 : Int) = ((1 : Nat) : Int) from rfl, h]
    exact wrap_id (by omega))
theorem XS.bitU (hx : evS σ x = some (.d (.im (.int .u64 (m : Int))))) (hy : evS σ y = some (.d (.im (.int .u64 1)))) (hm : m < 18446744073709551616) :
    XS c ⟨dst, .binOp .and t x y u, ty, pos, after, gd⟩ H σ (.d (.im (.int .u64 ((m % 2 : Nat) : Int)))) :=
  (XS.andU (n := 1) hx hy hm (by decide)).toI (by rw [Nat.and_one_is_mod])
theorem XS.dblB (hx : evS σ x = some (.d (.im (.int .u8 (m : Int))))) (hy : evS σ y = some (.d (.im (.int .u64 1)))) (hm : m < 128) :
    XS c ⟨dst, .binOp .shl t x y u, ty, pos, after, gd⟩ H σ (.d (.im (.int .u8 ((m * 2 : Nat) : Int)))) :=
  (XS.shl hx hy (by omega)).toI (by
    rw [IntKind.wrap_u8, show (2 : Int) ^ (min (1 : Int).toNat IntKind.u8.bits) = 2 by decide]; omega)
theorem WI.wkH {bs : List (Option Nat)} {w : World} (hW : WI c bs H w) : WI c bs (H.map fun ds => ds.map wk) w := { hW with
  len := by rw [List.length_map]; exact hW.len
  box := fun i g ds h1 h2 => by
    rw [List.getElem?_map, Option.map_eq_some_iff] at h2
    obtain ⟨ds', h3, rfl⟩ := h2
    obtain ⟨vs, t, k1, k2, k3, k4⟩ := hW.box i g ds' h1 h3
    refine ⟨vs, t, k1, by rw [List.length_map]; exact k2, fun d hd => ?_, fun j d v hj hv => ?_⟩
    · obtain ⟨d', hd', rfl⟩ := List.mem_map.1 hd
      have h4 := k3 d' hd'
      unfold wk
      split
      · rfl
      · exact h4
    · rw [List.getElem?_map, Option.map_eq_some_iff] at hj
      obtain ⟨d', hj', rfl⟩ := hj
      exact (k4 j d' v hj' hv).wk }
/-- In the boxes nil counts as a slice that is only read. -/
theorem AW.wkH {N : Nat} {z : Code} {Q : Ax → Sg → List (List Dv) → Prop} {H' : List (List Dv)} (e : H.map (fun ds => ds.map wk) = H') (h : AW c N z Q σ H') : AW c N z Q σ H :=
  ⟨fun R h1 h2 h3 a w hS => by
    obtain ⟨bs, hW, hN, hD, hs⟩ := hS
    exact h.out R h1 h2 h3 a w ⟨bs, e ▸ hW.wkH, hN, hD, hs⟩⟩
end
end Go.Proofs.Ytgafdhpagifpcaa.Av
