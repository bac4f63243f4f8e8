/-
  OWN WORK. The calculus: equality of structs of whole numbers, bools and strings.
-/
import Derived.Test.YtgafdhpagifpcaaAv9
import Derived.Laws.StructEq
namespace Go.Proofs.Ytgafdhpagifpcaa.Av
open Go Go.RowKit
set_option linter.unusedVariables false
set_option linter.unusedSimpArgs false

inductive Ek where
  | int (k : IntKind)
  | bool
  | str
  deriving DecidableEq
def tyV : Ek → Value → Bool
  | .int k, .int k' _ => decide (k = k')
  | .bool, .bool _ => true
  | .str, .string _ => true
  | _, _ => false
def tyVs : List Ek → List Value → Bool
  | [], [] => true
  | k :: ks, v :: vs => tyV k v && tyVs ks vs
  | _, _ => false
def tyD : Ek → Dv → Bool
  | .int k, .im (.int k' _) => decide (k = k')
  | .bool, .im (.bool _) => true
  | .str, .im (.string _) => true
  | _, _ => false
def tyDs : List Ek → List Dv → Bool
  | [], [] => true
  | k :: ks, v :: vs => tyD k v && tyDs ks vs
  | _, _ => false

def eqF (g : TypeId → Option (List Ek)) (P : Program) : List Field → Nat → Option (List Ek)
  | [], _ => some []
  | f :: fs, o => match g f.type, eqF g P fs (o + P.cellsOf f.type) with
    | some ks, some r => if f.name ≠ "_" ∧ f.offset = o ∧ szB P f.type = some ks.length ∧ 0 < ks.length then some (ks ++ r) else none
    | _, _ => none
def eqT (P : Program) : Nat → TypeId → Option (List Ek)
  | 0, _ => none
  | n + 1, t => match P.underlying t with
    | some .bool => some [.bool]
    | some (.int k) => some [.int k]
    | some .string => some [.str]
    | some (.struct fs) => if P.stoodInHeld t = true then none else eqF (eqT P n) P fs.toList 0
    | _ => none

theorem tyVs_len : ∀ {ks : List Ek} {vs : List Value}, tyVs ks vs = true → vs.length = ks.length
  | [], [], _ => rfl
  | k :: ks, v :: vs, h => by simp [tyVs] at h; simp [tyVs_len h.2]
  | [], _ :: _, h => by simp [tyVs] at h
  | _ :: _, [], h => by simp [tyVs] at h
theorem tyVs_append : ∀ {k1 k2 : List Ek} {vs : List Value}, tyVs (k1 ++ k2) vs = true → tyVs k1 (vs.take k1.length) = true ∧ tyVs k2 (vs.drop k1.length) = true
  | [], k2, vs, h => ⟨by simp [tyVs], by simpa using h⟩
  | k :: k1, k2, v :: vs, h => by
    simp [tyVs] at h
    obtain ⟨h1, h2⟩ := tyVs_append h.2
    exact ⟨by simp [tyVs, h.1, h1], by simpa using h2⟩
  | k :: k1, k2, [], h => by simp [tyVs] at h

/-- The cells, as a value of the type. -/
def mkV (P : Program) (t : TypeId) (cs : List Value) : Value := if rowB P t = true then .agg cs.toArray else cs.getD 0 undef

theorem part_run {P : Program} {w : World} {t : TypeId} {cs : List Value} {o n : Nat} (hs : szB P t = some n) (hr : rowB P t = true ∨ (oneB P t = true ∧ n = 1)) (hl : o + n ≤ cs.length) :
    (part t cs.toArray o).run P w = .ok (mkV P t ((cs.drop o).take n)) w := by
  unfold part
  rcases hr with hr | ⟨hr, h1⟩
  · simp only [Sem.run_bind, agg_of_row hr, Result.andThen_ok, if_true, size_run hs, Sem.run_pure, mkV, hr]
    simp [List.extract_eq_take_drop]
  · subst h1
    have hne : rowB P t = false := by
      unfold oneB at hr; unfold rowB
      cases hu : P.underlying t with
      | none => rfl
      | some d => cases d <;> simp_all
    have hlt : o < cs.length := by omega
    simp only [Sem.run_bind, agg_of_one hr, Result.andThen_ok, mkV, hne]
    simp [hlt, List.getElem?_eq_getElem hlt]

theorem eqP_and {p q : Prop} : (eqP p && eqP q) = eqP (p ∧ q) := by
  by_cases h1 : p <;> by_cases h2 : q
  · rw [eqP_yes h1, eqP_yes h2, eqP_yes ⟨h1, h2⟩]; rfl
  · rw [eqP_yes h1, eqP_no h2, eqP_no (fun h => h2 h.2)]; rfl
  · rw [eqP_no h1, eqP_yes h2, eqP_no (fun h => h1 h.1)]; rfl
  · rw [eqP_no h1, eqP_no h2, eqP_no (fun h => h1 h.1)]; rfl

theorem one_of_eqT {P : Program} {n : Nat} {t : TypeId} {ks : List Ek} (h : eqT P n t = some ks) : rowB P t = true ∨ (oneB P t = true ∧ ks.length = 1) := by
  cases n with
  | zero => simp [eqT] at h
  | succ n =>
    simp only [eqT] at h
    unfold rowB oneB
    split at h
    · rename_i hu; cases h; rw [hu]; exact .inr ⟨rfl, rfl⟩
    · rename_i hu; cases h; rw [hu]; exact .inr ⟨rfl, rfl⟩
    · rename_i hu; cases h; rw [hu]; exact .inr ⟨rfl, rfl⟩
    · rename_i hu; rw [hu]; exact .inl rfl
    · cases h

theorem fields_run {P : Program} {w : World} {g : TypeId → Option (List Ek)} {d : Nat} {xs ys : List Value} (hone : ∀ t ks, g t = some ks → rowB P t = true ∨ (oneB P t = true ∧ ks.length = 1))
    (hg : ∀ t ks, g t = some ks → ∀ c1 c2, tyVs ks c1 = true → tyVs ks c2 = true → (Op.equalIn d t (mkV P t c1) (mkV P t c2)).run P w = .ok (eqP (c1 = c2)) w) : ∀ (fs : List Field) (o : Nat) (ks : List Ek), eqF g P fs o = some ks →
    tyVs ks (xs.drop o) = true → tyVs ks (ys.drop o) = true → (Op.eqFields d xs.toArray ys.toArray fs).run P w = .ok (eqP (xs.drop o = ys.drop o)) w
  | [], o, ks, h, h1, h2 => by
    cases h
    have e1 := tyVs_len h1
    have e2 := tyVs_len h2
    have : xs.drop o = ys.drop o := by rw [List.eq_nil_of_length_eq_zero e1, List.eq_nil_of_length_eq_zero e2]
    simp [Op.eqFields, eqP_yes this]
  | f :: fs, o, ks, h, h1, h2 => by
    simp only [eqF] at h
    cases hk : g f.type with
    | none => rw [hk] at h; cases h
    | some k1 =>
      cases hr : eqF g P fs (o + P.cellsOf f.type) with
      | none => rw [hk, hr] at h; cases h
      | some k2 =>
        rw [hk, hr] at h
        simp only at h
        split at h
        · rename_i hc
          cases h
          obtain ⟨hn, ho, hs, hpos⟩ := hc
          have hco : P.cellsOf f.type = k1.length := by
            unfold szB at hs; unfold Program.cellsOf; rw [hs]; rfl
          rw [hco] at hr
          obtain ⟨a1, b1⟩ := tyVs_append h1
          obtain ⟨a2, b2⟩ := tyVs_append h2
          rw [List.drop_drop] at b1 b2
          have l1 := tyVs_len h1
          have l2 := tyVs_len h2
          simp at l1 l2
          have ih := fields_run hone hg fs (o + k1.length) k2 hr b1 b2
          have e1 := part_run (P := P) (w := w) (t := f.type) (cs := xs) (o := o) hs (hone _ _ hk) (by omega)
          have e2 := part_run (P := P) (w := w) (t := f.type) (cs := ys) (o := o) hs (hone _ _ hk) (by omega)
          simp only [Op.eqFields, ho]
          rw [if_pos hn]
          simp only [Sem.run_bind, e1, e2, Result.andThen_ok, hg _ _ hk _ _ a1 a2]
          have key : (xs.drop o = ys.drop o) ↔ ((xs.drop o).take k1.length = (ys.drop o).take k1.length ∧ xs.drop (o + k1.length) = ys.drop (o + k1.length)) := by
            constructor
            · intro e
              refine ⟨by rw [e], ?_⟩
              rw [← List.drop_drop, ← List.drop_drop, e]
            · rintro ⟨ea, eb⟩
              rw [← List.drop_drop, ← List.drop_drop] at eb
              rw [← List.take_append_drop k1.length (xs.drop o), ← List.take_append_drop k1.length (ys.drop o), ea, eb]
          rw [eqP_congr key, ← eqP_and]
          cases hq : eqP ((xs.drop o).take k1.length = (ys.drop o).take k1.length)
          · simp
          · simp [ih]
        · cases h
theorem tyVs_int {k : IntKind} : ∀ {c : List Value}, tyVs [.int k] c = true → ∃ a, c = [.int k a]
  | [v], h => by
    cases v <;> simp [tyVs, tyV] at h
    subst h
    exact ⟨_, rfl⟩
  | [], h => by simp [tyVs] at h
  | _ :: _ :: _, h => by simp [tyVs] at h
theorem eqV_run {P : Program} {w : World} : ∀ (n : Nat) (t : TypeId) (ks : List Ek), eqT P n t = some ks → ∀ d, n ≤ d → ∀ c1 c2, tyVs ks c1 = true → tyVs ks c2 = true → (Op.equalIn d t (mkV P t c1) (mkV P t c2)).run P w = .ok (eqP (c1 = c2)) w
  | 0, t, ks, h => by simp [eqT] at h
  | n + 1, t, ks, h => by
    intro d hd c1 c2 h1 h2
    obtain ⟨d, rfl⟩ : ∃ e, d = e + 1 := ⟨d - 1, by omega⟩
    simp only [eqT] at h
    split at h
    · rename_i hu
      cases h
      have hr : rowB P t = false := by unfold rowB; rw [hu]
      match c1, c2, h1, h2 with
      | [.bool a], [.bool b], _, _ =>
        simp only [mkV, hr, Bool.false_eq_true, if_false, List.getD_cons_zero]
        rw [run_equalIn_bool' w d t a b hu]
        congr 1
        by_cases e : a = b
        · rw [eqP_yes (by rw [e])]; simp [e]
        · rw [eqP_no (by simpa using e)]; simpa using e
    · rename_i k hu
      cases h
      have hr : rowB P t = false := by unfold rowB; rw [hu]
      obtain ⟨a, rfl⟩ := tyVs_int h1
      obtain ⟨b, rfl⟩ := tyVs_int h2
      · simp only [mkV, hr, Bool.false_eq_true, if_false, List.getD_cons_zero]
        rw [run_equalIn_int w d t k k a b hu]
        congr 1
        by_cases e : a = b
        · rw [eqP_yes (by rw [e])]; simp [e]
        · rw [eqP_no (by simpa using e)]; simpa using e
    · rename_i hu
      cases h
      have hr : rowB P t = false := by unfold rowB; rw [hu]
      match c1, c2, h1, h2 with
      | [.string a], [.string b], _, _ =>
        simp only [mkV, hr, Bool.false_eq_true, if_false, List.getD_cons_zero]
        rw [run_equalIn_string w d t a b hu, str_eq]
        congr 1
        exact eqP_congr (by simp)
    · rename_i fs hu
      split at h
      · cases h
      · rename_i hst
        have hr : rowB P t = true := by unfold rowB; rw [hu]
        have hf : P.fieldsOf t = fs := by unfold Program.fieldsOf; rw [hu]
        simp only [mkV, hr, if_true]
        rw [run_equalIn_struct w d t _ _ (by rw [hf]; exact hu) (by simpa using hst), hf]
        have := fields_run (P := P) (w := w) (d := d) (xs := c1) (ys := c2) (fun t ks h => one_of_eqT h) (fun t ks h c1 c2 a b => eqV_run n t ks h d (by omega) c1 c2 a b) fs.toList 0 ks h h1 h2
        simpa using this
    · cases h

theorem tyD_v {T : Nat → Prop} {w : World} {k : Ek} {d : Dv} {v : Value} (h : Rep T w d v) (hk : tyD k d = true) : tyV k v = true ∧ d = .im v := by
  cases d with
  | im u =>
    have := Rep.im_inv h
    subst this
    refine ⟨?_, rfl⟩
    cases k <;> cases v <;> simp_all [tyD, tyV]
  | _ => cases k <;> simp [tyD] at hk
theorem tyDs_v {T : Nat → Prop} {w : World} : ∀ {ks : List Ek} {ds : List Dv} {vs : List Value}, Reps T w ds vs → tyDs ks ds = true → tyVs ks vs = true ∧ ds = vs.map .im
  | [], [], [], _, _ => ⟨rfl, rfl⟩
  | k :: ks, d :: ds, v :: vs, h, hk => by
    simp [tyDs] at hk
    obtain ⟨a, b⟩ := tyD_v (h.2 0 d v rfl rfl) hk.1
    obtain ⟨a', b'⟩ := tyDs_v (ks := ks) (ds := ds) (vs := vs) ⟨by simpa using h.1, fun i d v hd hv => h.2 (i + 1) d v hd hv⟩ hk.2
    exact ⟨by simp [tyVs, a, a'], by rw [b, b']; rfl⟩
  | [], _ :: _, _, _, hk => by simp [tyDs] at hk
  | _ :: _, [], _, _, hk => by simp [tyDs] at hk
  | [], [], _ :: _, h, _ => by have := h.1; simp at this
  | _ :: _, _ :: _, [], h, _ => by have := h.1; simp at this

theorem map_im_inj : ∀ {a b : List Value}, a.map Dv.im = b.map Dv.im → a = b
  | [], [], _ => rfl
  | x :: a, y :: b, h => by
    simp only [List.map_cons, List.cons.injEq, Dv.im.injEq] at h
    have e := map_im_inj (a := a) (b := b) h.2
    rw [h.1, e]
  | [], _ :: _, h => by simp at h
  | _ :: _, [], h => by simp at h

def eqG (P : Program) (t : TypeId) : Bool := rowB P t && !P.eqGuardType P.depth t
section
variable {c : Cx} {N : Nat} {H : List (List Dv)} {σ : Sg} {dst : Option Tmp} {ty : TypeId} {pos : String} {after : Array Edge} {gd : Option (Nat × Bool)}
theorem eqS_run {t : TypeId} {x y : Operand} {ks : List Ek} {ds es : List Dv} {T : Nat → Prop} {w : World} {u v : Value} (hg : eqG c.P t = true) (ht : eqT c.P 40 t = some ks) (h1 : tyDs ks ds = true) (h2 : tyDs ks es = true) (hu : Rep T w (.ag ds) u) (hv : Rep T w (.ag es) v) (op : BinOp) :
    (eqGuard op t x y u v).run c.P w = .ok () w ∧ (Op.equal t u v).run c.P w = .ok (eqP (ds = es)) w ∧ ∃ a b, u = .agg a ∧ v = .agg b := by
  simp only [eqG, Bool.and_eq_true, Bool.not_eq_true'] at hg
  cases hu with
  | ag k1 k2 k3 =>
    cases hv with
    | ag q1 q2 q3 =>
      rename_i us vs
      obtain ⟨a1, b1⟩ := tyDs_v ⟨k1, k3⟩ h1
      obtain ⟨a2, b2⟩ := tyDs_v ⟨q1, q3⟩ h2
      refine ⟨?_, ?_, _, _, rfl, rfl⟩
      · cases op <;> simp [eqGuard, hg.2]
      · have := eqV_run (P := c.P) (w := w) 40 t ks ht Op.maxDepth (by decide) us vs a1 a2
        simp only [mkV, hg.1, if_true] at this
        unfold Op.equal
        rw [this]
        congr 1
        exact eqP_congr (show us = vs ↔ ds = es from ⟨fun e => by rw [b1, b2, e], fun e => map_im_inj (b1.symm.trans (e.trans b2))⟩)
theorem XS.eqlS {t u : TypeId} {x y : Operand} {ks : List Ek} {ds es : List Dv} (hx : evS σ x = some (.d (.ag ds))) (hy : evS σ y = some (.d (.ag es))) (hg : eqG c.P t = true ∧ eqT c.P 40 t = some ks) (h1 : tyDs ks ds = true) (h2 : tyDs ks es = true) :
    XS c ⟨dst, .binOp .eql t x y u, ty, pos, after, gd⟩ H σ (.d (.im (.bool (eqP (ds = es))))) := by
  refine XS.of_val fun bs a w hW hops => ?_
  have r1 := hops x (by simp [Op.operands]) _ hx
  have r2 := hops y (by simp [Op.operands]) _ hy
  obtain ⟨e1, e2, p, q, e3, e4⟩ := eqS_run (c := c) (x := x) (y := y) hg.1 hg.2 h1 h2 r1 r2 .eql
  rw [e3, e4] at e1 e2
  exact ⟨_, by simp [execOp, e3, e4, e1, binOp, e2], Rep.im rfl⟩
theorem XS.neqS {t u : TypeId} {x y : Operand} {ks : List Ek} {ds es : List Dv} (hx : evS σ x = some (.d (.ag ds))) (hy : evS σ y = some (.d (.ag es))) (hg : eqG c.P t = true ∧ eqT c.P 40 t = some ks) (h1 : tyDs ks ds = true) (h2 : tyDs ks es = true) :
    XS c ⟨dst, .binOp .neq t x y u, ty, pos, after, gd⟩ H σ (.d (.im (.bool (eqP (ds ≠ es))))) := by
  refine XS.of_val fun bs a w hW hops => ?_
  have r1 := hops x (by simp [Op.operands]) _ hx
  have r2 := hops y (by simp [Op.operands]) _ hy
  obtain ⟨e1, e2, p, q, e3, e4⟩ := eqS_run (c := c) (x := x) (y := y) hg.1 hg.2 h1 h2 r1 r2 .neq
  rw [e3, e4] at e1 e2
  exact ⟨_, by simp [execOp, e3, e4, e1, binOp, e2, not_eqP], Rep.im rfl⟩
end
end Go.Proofs.Ytgafdhpagifpcaa.Av
