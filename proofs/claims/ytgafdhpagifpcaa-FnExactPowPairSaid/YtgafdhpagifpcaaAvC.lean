/-
  OWN WORK. Slices beside nil, and rows that are copied.
-/
import Derived.Test.YtgafdhpagifpcaaAvK
namespace Go.Proofs.Ytgafdhpagifpcaa.Av
open Go Go.RowKit
set_option linter.unusedVariables false
section
variable {c : Cx} {N : Nat} {σ : Sg} {H : List (List Dv)} {dst : Option Tmp} {ty t : TypeId} {pos : String} {after : Array Edge} {gd : Option (Nat × Bool)} {x y : Operand} {k : IntKind}
theorem equal_nil {P : Program} {t e : TypeId} (h : P.underlying t = some (.slice e)) {A : Addr} {m cp : Nat} (w : World) : (Op.equal t (.slice (some A) m cp) (.slice none 0 0)).run P w = .ok false w := by
  unfold Op.equal
  rw [show Op.maxDepth = 9999 + 1 from rfl, Op.equalIn]
  simp [Sem.run_bind, run_underlying h]
theorem XS.slNil {u : TypeId} {n : Nat} {ys : List (List Dv)} (hx : evS σ x = some (.d (.sl ys))) (hne : 0 < ys.length) (ht : elemB c.P t = some n) :
    XS c ⟨dst, .binOp .eql t x (.const (.slice none 0 0)) u, ty, pos, after, gd⟩ H σ (.d (.im (.bool false))) := by
  refine XS.of_val fun bs a w hW hops => ?_
  obtain ⟨e, hu, _⟩ := elem_u ht
  rcases Rep.sl_inv (hops x (by simp [Op.operands]) _ hx) with ⟨rfl, _⟩ | ⟨g, off, cp, sz, cells, e', fr, uu, hv, _⟩
  · exact absurd hne (by decide)
  · have hg : (eqGuard .eql t x (.const (.slice none 0 0)) (.slice (some ⟨g, off, none⟩) ys.length cp) (.slice none 0 0)).run c.P w = .ok () w := rfl
    have hc : a.eval (.const (.slice none 0 0)) = .slice none 0 0 := rfl
    exact ⟨_, by simp [execOp, hv, hc, hg, binOp, equal_nil hu], Rep.im rfl⟩
/-- A list of numbers behind an empty row. -/
theorem AO.cloneL {ops : Array Oper} {i : Nat} {l : List Nat} {Q : Sg → List (List Dv) → Prop} {s : Operand} {tx : TypeId} {o bt mm K : Nat} {zs : List Dv} {ns : List Nat} {H' : List (List Dv)} (ho : ops[i]? = some ⟨dst, .call ⟨.builtin .append, #[s, x], #[t, tx]⟩, ty, pos, after, none⟩) (hd : dstOk N dst = true)
    (hs : evS σ s = some (.r o 0 1)) (hx : evS σ x = some (.d (limbsD k ns))) (hK : ns.length = K) (ht : appB c.P t = some (1, bt, zs)) (htx : elemB c.P tx = some mm) (hb : c.b0.length ≤ o) (hH : H[o]? = some [])
    (hbt : K * bt ≤ 140737488355328) (hmx : K ≤ maxLen) (hH' : setAt o (nkD k ns) H = some H') (h : AO c N ops l Q (put (.kill o :: σ) dst (.r o K 1)) H') : AO c N ops (i :: l) Q σ H := by
  have hl : (ns.map fun (n : Nat) => [Dv.im (.int k (n : Int))]).length = K := by simp [hK]
  have := AO.append (ns := ((ns.map fun (n : Nat) => [Dv.im (.int k (n : Int))]).flatten)) (m := (ns.map fun (n : Nat) => [Dv.im (.int k (n : Int))]).length) (Q := Q) (l := l) ho hd hs ht (SrcD.sl (by decide) hx htx (by simp)) hb hH (by simp) (by rw [hl, Nat.zero_add]; exact hbt) (by rw [hl, Nat.zero_add]; exact hmx) (H' := H') (by
    rw [← hH']; congr 1
    clear hH' hx hK hl
    induction ns with
    | nil => rfl
    | cons n ns ih => simp [nkD] at ih ⊢; exact ih)
  rw [hl, Nat.zero_add] at this
  exact this h
/-- The first elements of a row of the call's own, as a row. -/
theorem XS.rowHead {b j n sz m : Nat} {k' : IntKind} (hx : evS σ x = some (.r b n sz)) (hy : evS σ y = some (.d (.im (.int k' (j : Int))))) (ht : elemB c.P t = some m) (hj : 0 < j ∧ j ≤ n) :
    XS c ⟨dst, .slice t x none (some y) none, ty, pos, after, gd⟩ H σ (.r b j sz) := by
  refine XS.of_val fun bs a w hW hops => ?_
  have r1 := hops x (by simp [Op.operands]) _ hx
  have e2 := Rep.im_inv (hops y (by simp [Op.operands]) _ hy)
  obtain ⟨hu, hz⟩ := elem_s ht
  have hr := size_run hz w
  rcases r1 with ⟨h0, _, _⟩ | ⟨g, cp, cells, ty', hb, hv, hcp, hg, hsz⟩
  · omega
  · refine ⟨sliced (some ⟨g, 0, none⟩) 0 ((j : Int)).toNat cp m, by simp [execOp, hv, e2, run_sliceAt_slice w t _ _ _ _ hu, run_slice_h w t (some ⟨g, 0, none⟩) n cp hu k' j (by omega) (by omega), hr], ?_⟩
    have e0 : sliced (some ⟨g, 0, none⟩) 0 ((j : Int)).toNat cp m = .slice (some ⟨g, 0, none⟩) j cp := by
      simp [sliced, Addr.add]
    rw [e0]
    exact .inr ⟨g, cp, cells, ty', hb, rfl, by omega, hg, hsz⟩
theorem equal_nilV {P : Program} {t e : TypeId} (h : P.underlying t = some (.slice e)) {A : Option Addr} {m cp : Nat} (w : World) : (Op.equal t (.slice A m cp) (.slice none 0 0)).run P w = .ok A.isNone w := by
  unfold Op.equal
  rw [show Op.maxDepth = 9999 + 1 from rfl, Op.equalIn]
  cases A <;> simp [Sem.run_bind, run_underlying h]
theorem XS.slNilV {u : TypeId} {n m cp : Nat} {A : Option Addr} (hx : evS σ x = some (.d (.im (.slice A m cp)))) (ht : elemB c.P t = some n) :
    XS c ⟨dst, .binOp .eql t x (.const (.slice none 0 0)) u, ty, pos, after, gd⟩ H σ (.d (.im (.bool A.isNone))) := by
  refine XS.of_val fun bs a w hW hops => ?_
  obtain ⟨e, hu, _⟩ := elem_u ht
  have h1 := Rep.im_inv (hops x (by simp [Op.operands]) _ hx)
  have hg : (eqGuard .eql t x (.const (.slice none 0 0)) (.slice A m cp) (.slice none 0 0)).run c.P w = .ok () w := rfl
  have hc : a.eval (.const (.slice none 0 0)) = .slice none 0 0 := rfl
  exact ⟨_, by simp [execOp, h1, hc, hg, binOp, equal_nilV hu], Rep.im rfl⟩
theorem St.unsl {a : Act} {w : World} {s cp : Nat} {A : Option Addr} (hS : St c N σ H a w) (h : lk σ s = some (.d (.im (.slice A 0 cp)))) : St c N (.put s (.d (.sl [])) :: σ) H a w := by
  obtain ⟨bs, h1, h2, h3, h4⟩ := hS
  refine ⟨bs, h1, h2, h3, fun q s' hq => ?_⟩
  simp only [lk] at hq
  split at hq
  · rename_i e
    subst e; cases hq
    have := Rep.im_inv (h4 _ _ h)
    show Rep _ _ _ _
    rw [this]; exact .sl0
  · exact h4 q s' hq
/-- An empty slice, as one that is only read. -/
theorem AO.unsl {ops : Array Oper} {l : List Nat} {Q : Sg → List (List Dv) → Prop} {cp : Nat} {A : Option Addr} (s : Nat) (h : lk σ s = some (.d (.im (.slice A 0 cp)))) (hh : AO c N ops l Q (.put s (.d (.sl [])) :: σ) H) : AO c N ops l Q σ H :=
  ⟨fun R hR a w hS => hh.out R hR a w (hS.unsl h)⟩
end
/-- A contract for an empty slice, whatever it points to. -/
theorem AC.of_sl0 {P : Program} {f : FuncId} {post : Dv → Prop} (h : ∀ A cp, AC P f [.im (.slice A 0 cp)] post) : AC P f [.sl []] post := by
  refine ⟨fun T w vs hT hvs => ?_⟩
  obtain ⟨v, rfl⟩ : ∃ v, vs = [v] := by
    match vs, hvs.1 with
    | [v], _ => exact ⟨v, rfl⟩
  rcases Rep.sl_inv (hvs.2 0 _ _ rfl rfl) with ⟨_, A, cp, rfl⟩ | ⟨g, off, cp, sz, cells, e, fr, u, _, k0, _⟩
  · exact (h A cp).out T w _ hT ⟨rfl, fun i d v hd hv => by
      match i with
      | 0 => simp at hd hv; subst hd hv; exact Rep.im rfl⟩
  · exact absurd k0 (by decide)
end Go.Proofs.Ytgafdhpagifpcaa.Av
