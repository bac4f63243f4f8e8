/-
  OWN WORK. The calculus: nil as an empty slice; bytes; contracts of the library's functions, told in it.
-/
import Derived.Test.YtgafdhpagifpcaaAvD
import Derived.Lib.Mul64
namespace Go.Proofs.Ytgafdhpagifpcaa.Av
open Go Go.RowKit Go.Proofs.Ytgafdhpagifpcaa.Num
set_option linter.unusedVariables false
set_option linter.unusedSimpArgs false
section
variable {c : Cx} {N : Nat} {H : List (List Dv)} {σ : Sg} {dst : Option Tmp} {ty : TypeId} {pos : String} {after : Array Edge} {gd : Option (Nat × Bool)}
variable {t u : TypeId} {x y : Operand} {m n : Nat}
theorem St.unnil {a : Act} {w : World} {s : Nat} (hS : St c N σ H a w) (h : lk σ s = some (.d (.im (.slice none 0 0)))) : St c N (.put s (.d (.sl [])) :: σ) H a w := by
  obtain ⟨bs, h1, h2, h3, h4⟩ := hS
  refine ⟨bs, h1, h2, h3, fun q s' hq => ?_⟩
  simp only [lk] at hq
  split at hq
  · rename_i e
    subst e; cases hq
    have := Rep.im_inv (h4 _ _ h)
    show Rep _ _ _ _
    rw [this]; exact .sl0
  · exact h4 q s' hq
/-- nil, as a slice that is only read. -/
theorem AW.unnil {z : Code} {Q : Ax → Sg → List (List Dv) → Prop} (s : Nat) (h : lk σ s = some (.d (.im (.slice none 0 0)))) (hh : AW c N z Q (.put s (.d (.sl [])) :: σ) H) : AW c N z Q σ H :=
  ⟨fun R h1 h2 h3 a w hS => hh.out R h1 h2 h3 a w (hS.unnil h)⟩
theorem AO.unnil {ops : Array Oper} {l : List Nat} {Q : Sg → List (List Dv) → Prop} (s : Nat) (h : lk σ s = some (.d (.im (.slice none 0 0)))) (hh : AO c N ops l Q (.put s (.d (.sl [])) :: σ) H) : AO c N ops l Q σ H :=
  ⟨fun R hR a w hS => hh.out R hR a w (hS.unnil h)⟩
/-- One element more, of one cell. -/
theorem AO.appendD {ops : Array Oper} {i : Nat} {l : List Nat} {Q : Sg → List (List Dv) → Prop} {s : Operand} {tx : TypeId} {o bt mm : Nat} {zs ds : List Dv} {d : Dv} {H' : List (List Dv)} (ho : ops[i]? = some ⟨dst, .call ⟨.builtin .append, #[s, x], #[t, tx]⟩, ty, pos, after, none⟩) (hd : dstOk N dst = true)
    (hs : evS σ s = some (.r o n 1)) (hx : evS σ x = some (.d (.sl [[d]]))) (ht : appB c.P t = some (1, bt, zs)) (htx : elemB c.P tx = some mm) (hb : c.b0.length ≤ o) (hH : H[o]? = some ds) (hn : ds.length = n)
    (hbt : (n + 1) * bt ≤ 140737488355328) (hmx : n + 1 ≤ maxLen) (hH' : setAt o (ds ++ [d]) H = some H') (h : AO c N ops l Q (put (.kill o :: σ) dst (.r o (n + 1) 1)) H') : AO c N ops (i :: l) Q σ H :=
  AO.append ho hd hs ht (SrcD.sl (by decide) hx htx (by simp)) hb hH (by omega) hbt hmx (H' := H') (by rw [← hH']; rfl) h
theorem XS.subB (hx : evS σ x = some (.d (.im (.int .u8 (m : Int))))) (hy : evS σ y = some (.d (.im (.int .u8 (n : Int))))) (h : n ≤ m ∧ m < 256) :
    XS c ⟨dst, .binOp .sub t x y u, ty, pos, after, gd⟩ H σ (.d (.im (.int .u8 ((m - n : Nat) : Int)))) :=
  (XS.int hx hy rfl).toI (by rw [IntKind.wrap_u8]; omega)
theorem XS.mask32 (hx : evS σ x = some (.d (.im (.int .u64 (m : Int))))) (hy : evS σ y = some (.d (.im (.int .u64 4294967295)))) (hm : m < 18446744073709551616) :
    XS c ⟨dst, .binOp .and t x y u, ty, pos, after, gd⟩ H σ (.d (.im (.int .u64 ((m % 4294967296 : Nat) : Int)))) :=
  (XS.andU (n := 4294967295) hx hy hm (by decide)).toI (by
    have : m &&& 4294967295 = m % 4294967296 := Nat.and_two_pow_sub_one_eq_mod m 32
    rw [this])
end
theorem reps_im {T : Nat → Prop} {w : World} : ∀ {vals vs : List Value}, Reps T w (vals.map .im) vs → vs = vals
  | [], [], _ => rfl
  | [], _ :: _, h => by have := h.1; simp at this
  | _ :: _, [], h => by have := h.1; simp at this
  | a :: l, v :: vs, h => by
    have h1 := Rep.im_inv (h.2 0 _ _ rfl rfl)
    have h2 := reps_im (vals := l) (vs := vs) ⟨by have := h.1; simpa using this, fun i d v hd hv => h.2 (i + 1) d v hd hv⟩
    rw [h1, h2]
/-- A contract of the library's, of values that are no memory. -/
theorem AC.of_im {P : Program} {f : FuncId} {r : Dv} {v : Value} (vals : List Value) (h : ∀ w, Calls P f vals.toArray w fun e w' => e = .returned v ∧ Below w.heap.size w w') (hr : ∀ T w, Rep T w r v) : AC P f (vals.map .im) (fun d => d = r) :=
  ⟨fun T w vs hT hvs => by
    rw [reps_im hvs]
    exact (h w).mono fun e w' ⟨h1, h2⟩ => ⟨r, v, h1, rfl, hr T w', h2⟩⟩
end Go.Proofs.Ytgafdhpagifpcaa.Av
