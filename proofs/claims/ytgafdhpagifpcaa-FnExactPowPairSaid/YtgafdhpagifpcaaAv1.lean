/-
  OWN WORK. A small calculus over the kit's Code: abstract values, abstract weakest preconditions, proved sound.
-/
import Derived.Below
import Derived.Calls
import Derived.Orders
import Derived.Laws.Sem
import Derived.WalkKit
import Derived.KernelRfl
import Derived.Deep.LoopGhost
namespace Go.Proofs.Ytgafdhpagifpcaa.Av
open Go
set_option linter.unusedVariables false
set_option linter.unusedSimpArgs false

/-! ### 1. Abstract values -/
inductive Dv where
  | im (v : Value)
  | ag (ds : List Dv)
  | tu (ds : List Dv)
  | sl (xs : List (List Dv))
  | fn (f : Fn) (a b : List Dv)

def leaf : Dv → Bool
  | .im v => v.oneCell'
  | .ag _ => false
  | .tu _ => false
  | .sl _ => true
  | .fn _ _ _ => true

/-- The value v of the world w reads as d; the blocks that are read are none of T. -/
inductive Rep (T : Nat → Prop) (w : World) : Dv → Value → Prop
  | im {v : Value} : v.oneCell' = true → Rep T w (.im v) v
  | ag {ds : List Dv} {vs : List Value} : ds.length = vs.length → (∀ d ∈ ds, leaf d = true) →
      (∀ (i : Nat) (d : Dv) (v : Value), ds[i]? = some d → vs[i]? = some v → Rep T w d v) → Rep T w (.ag ds) (.agg vs.toArray)
  | tu {ds : List Dv} {vs : List Value} : ds.length = vs.length →
      (∀ (i : Nat) (d : Dv) (v : Value), ds[i]? = some d → vs[i]? = some v → Rep T w d v) → Rep T w (.tu ds) (.tuple vs.toArray)
  | sl0 {A : Option Addr} {c : Nat} : Rep T w (.sl []) (.slice A 0 c)
  | sl1 {xs : List (List Dv)} {g off c sz : Nat} {cells : Array Value} {e : TypeId} {fr : Nat × Nat} {u : Nat → Nat → Value} :
      0 < xs.length → xs.length ≤ c → w.heap[g]? = some (.cells cells e fr) → ¬ T g → (∀ x ∈ xs, x.length = sz) → (∀ x ∈ xs, ∀ d ∈ x, leaf d = true) →
      (∀ (i j : Nat), i < xs.length → j < sz → cells[off + i * sz + j]? = some (u i j)) →
      (∀ (i : Nat) (x : List Dv) (j : Nat) (d : Dv), xs[i]? = some x → x[j]? = some d → Rep T w d (u i j)) → Rep T w (.sl xs) (.slice (some ⟨g, off, none⟩) xs.length c)
  | fn {f : Fn} {a b : List Dv} {va vb : List Value} : a.length = va.length → b.length = vb.length →
      (∀ (i : Nat) (d : Dv) (v : Value), a[i]? = some d → va[i]? = some v → Rep T w d v) → (∀ (i : Nat) (d : Dv) (v : Value), b[i]? = some d → vb[i]? = some v → Rep T w d v) →
      Rep T w (.fn f a b) (.func f va.toArray vb.toArray)

theorem Rep.im_inv {T : Nat → Prop} {w : World} {u v : Value} (h : Rep T w (.im u) v) : v = u := by
  generalize hd : Dv.im u = d at h
  cases h <;> cases hd
  rfl

/-- nil, as what is only read. -/
def wk : Dv → Dv
  | .im (.slice none 0 _) => .sl []
  | d => d
theorem Rep.wk {T : Nat → Prop} {w : World} {d : Dv} {v : Value} (h : Rep T w d v) : Rep T w (wk d) v := by
  unfold Av.wk
  split
  · rw [Rep.im_inv h]; exact .sl0
  · exact h

theorem Rep.one {T : Nat → Prop} {w : World} {d : Dv} {v : Value} (h : Rep T w d v) (hl : leaf d = true) : v.oneCell' = true := by
  cases h <;> first | assumption | rfl | simp [leaf] at hl

theorem Rep.mono {T T' : Nat → Prop} {w w' : World} {d : Dv} {v : Value} (h : Rep T w d v) (hT : ∀ g, g < w.heap.size → T' g → T g)
    (hw : ∀ g, g < w.heap.size → ¬ T g → w'.heap[g]? = w.heap[g]?) : Rep T' w' d v := by
  induction h with
  | im h => exact .im h
  | ag h1 h2 _ ih => exact .ag h1 h2 ih
  | tu h1 _ ih => exact .tu h1 ih
  | sl0 => exact .sl0
  | sl1 h0 h1 h2 h3 h4 h5 h6 _ ih =>
    have hg := (Array.getElem?_eq_some_iff.1 h2).1
    exact .sl1 h0 h1 ((hw _ hg h3).trans h2) (fun ht => h3 (hT _ hg ht)) h4 h5 h6 ih
  | fn h1 h2 _ _ ih1 ih2 => exact .fn h1 h2 ih1 ih2

/-! ### 2. What a slot holds; boxes that are told apart -/
inductive Sv where
  | d (x : Dv)
  /-- a pointer into the box b -/
  | p (b o : Nat)
  /-- a pointer to cells that are only read -/
  | e (ds : List Dv)
  /-- a row of the call's own, at its box's beginning: n elements of sz cells -/
  | r (b n sz : Nat)
  /-- something that is not told of any more -/
  | u

inductive Ent where
  | put (t : Nat) (s : Sv)
  /-- of what comes behind, these slots alone -/
  | only (L : List Nat)
  /-- of what comes behind, nothing of the box b -/
  | kill (b : Nat)
  /-- of what comes behind, nothing of the boxes from m on -/
  | trim (m : Nat)
abbrev Sg := List Ent
def killS (b : Nat) : Sv → Sv
  | .p b' o => if b' = b then .u else .p b' o
  | .r b' n sz => if b' = b then .u else .r b' n sz
  | s => s
def trimS (m : Nat) : Sv → Sv
  | .p b o => if b < m then .p b o else .u
  | .r b n sz => if b < m then .r b n sz else .u
  | s => s
def inL : List Nat → Nat → Bool
  | [], _ => false
  | a :: l, n => if n = a then true else inL l n
def lk : Sg → Nat → Option Sv
  | [], _ => none
  | .put t s :: l, n => if n = t then some s else lk l n
  | .only L :: l, n => match inL L n with
    | true => lk l n
    | false => none
  | .kill b :: l, n => match lk l n with
    | some s => some (killS b s)
    | none => none
  | .trim m :: l, n => match lk l n with
    | some s => some (trimS m s)
    | none => none

def TT (T : Nat → Prop) (bs : List (Option Nat)) : Nat → Prop := fun g => T g ∨ some g ∈ bs

def SRep (T : Nat → Prop) (bs : List (Option Nat)) (w : World) : Sv → Value → Prop
  | .d x, v => Rep (TT T bs) w x v
  | .p b o, v => ∃ g, bs[b]? = some (some g) ∧ v = .pointer (some ⟨g, o, none⟩)
  | .e ds, v => ∃ g off cells t fr, v = .pointer (some ⟨g, off, none⟩) ∧ w.heap[g]? = some (.cells cells t fr) ∧ ¬ TT T bs g ∧ (∀ d ∈ ds, leaf d = true) ∧
      ∀ (j : Nat) (d : Dv), ds[j]? = some d → ∃ u, cells[off + j]? = some u ∧ Rep (TT T bs) w d u
  | .u, _ => True
  | .r b n sz, v => (n = 0 ∧ v = .slice none 0 0 ∧ bs[b]? = some none) ∨ ∃ g c cells t, bs[b]? = some (some g) ∧ v = .slice (some ⟨g, 0, none⟩) n c ∧ n ≤ c ∧ w.heap[g]? = some (.cells cells t (0, 0)) ∧ c * sz ≤ cells.size

def BoxAt (T : Nat → Prop) (w : World) (g : Nat) (ds : List Dv) : Prop :=
  ∃ vs t, w.heap[g]? = some (.cells vs t (0, 0)) ∧ ds.length ≤ vs.size ∧ (∀ d ∈ ds, leaf d = true) ∧ ∀ (j : Nat) (d : Dv) (v : Value), ds[j]? = some d → vs[j]? = some v → Rep T w d v

structure Cx where
  P : Program
  w0 : World
  T : Nat → Prop
  b0 : List Nat

structure WI (c : Cx) (bs : List (Option Nat)) (H : List (List Dv)) (w : World) : Prop where
  os : w.os = c.w0.os
  tape : w.tape = c.w0.tape
  output : w.output = c.w0.output
  size : c.w0.heap.size ≤ w.heap.size
  old : ∀ (g : Nat), g < c.w0.heap.size → g ∉ c.b0 → w.heap[g]? = c.w0.heap[g]?
  told : ∀ g, c.T g → g < c.w0.heap.size
  own : ∀ (i g : Nat), bs[i]? = some (some g) → c.b0[i]? = some g ∨ (c.b0.length ≤ i ∧ c.w0.heap.size ≤ g)
  ext : ∀ (i g : Nat), c.b0[i]? = some g → bs[i]? = some (some g)
  blt : ∀ g, some g ∈ bs → g < w.heap.size
  nd : ∀ (i j g : Nat), bs[i]? = some (some g) → bs[j]? = some (some g) → i = j
  len : H.length = bs.length
  erow : ∀ (g : Nat), g ∈ c.b0 → ∀ (vs : Array Value) (t : TypeId), c.w0.heap[g]? = some (.cells vs t (0, 0)) → ∃ vs', w.heap[g]? = some (.cells vs' t (0, 0)) ∧ vs'.size = vs.size
  box : ∀ (i g : Nat) (ds : List Dv), bs[i]? = some (some g) → H[i]? = some ds → BoxAt (TT c.T bs) w g ds

/-- What is no box stays. -/
structure WExt (bs : List (Option Nat)) (w w' : World) : Prop where
  size : w.heap.size ≤ w'.heap.size
  same : ∀ g, g < w.heap.size → some g ∉ bs → w'.heap[g]? = w.heap[g]?
  rows : ∀ g, some g ∈ bs → ∀ vs t, w.heap[g]? = some (.cells vs t (0, 0)) → ∃ vs', w'.heap[g]? = some (.cells vs' t (0, 0)) ∧ vs'.size = vs.size

theorem WExt.refl (bs : List (Option Nat)) (w : World) : WExt bs w w := ⟨Nat.le_refl _, fun _ _ _ => rfl, fun _ _ vs _ h => ⟨vs, h, rfl⟩⟩
theorem WExt.trans {bs : List (Option Nat)} {w1 w2 w3 : World} (h : WExt bs w1 w2) (k : WExt bs w2 w3) : WExt bs w1 w3 :=
  ⟨Nat.le_trans h.size k.size, fun g hg hn => (k.same g (Nat.lt_of_lt_of_le hg h.size) hn).trans (h.same g hg hn), fun g hg vs t hv => by
    obtain ⟨vs1, h1, e1⟩ := h.rows g hg vs t hv
    obtain ⟨vs2, h2, e2⟩ := k.rows g hg vs1 t h1
    exact ⟨vs2, h2, e2.trans e1⟩⟩

theorem Rep.ext {T : Nat → Prop} {bs : List (Option Nat)} {w w' : World} {d : Dv} {v : Value} (h : Rep (TT T bs) w d v) (hw : WExt bs w w') : Rep (TT T bs) w' d v :=
  h.mono (fun _ _ h => h) (fun g hg hn => hw.same g hg (fun hb => hn (.inr hb)))

theorem SRep.ext {T : Nat → Prop} {bs : List (Option Nat)} {w w' : World} {s : Sv} {v : Value} (h : SRep T bs w s v) (hw : WExt bs w w') : SRep T bs w' s v := by
  cases s with
  | d x => exact Rep.ext h hw
  | p b o => exact h
  | e ds =>
    obtain ⟨g, off, cells, t, fr, hv, hh, hn, hl, hr⟩ := h
    have hg := (Array.getElem?_eq_some_iff.1 hh).1
    refine ⟨g, off, cells, t, fr, hv, (hw.same g hg (fun hb => hn (.inr hb))).trans hh, hn, hl, fun j d hd => ?_⟩
    obtain ⟨u, hu, hr⟩ := hr j d hd
    exact ⟨u, hu, Rep.ext hr hw⟩
  | u => trivial
  | r b n sz =>
    rcases h with h | ⟨g, c, cells, t, hb, hv, hn, hh, hs⟩
    · exact .inl h
    obtain ⟨vs', h1, e1⟩ := hw.rows g (List.mem_of_getElem? hb) _ _ hh
    exact .inr ⟨g, c, vs', t, hb, hv, hn, h1, by rw [e1]; exact hs⟩

/-! ### 3. Operands, one operation -/
def evS (σ : Sg) : Operand → Option Sv
  | .tmp t => lk σ t
  | .const v => if v.oneCell' = true then some (.d (.im v)) else none
  | .func f => some (.d (.fn (.func f) [] []))
  | .global _ => none

/-- The operation o yields r, whatever else the slots hold. -/
structure XS (c : Cx) (o : Oper) (H : List (List Dv)) (σ : Sg) (r : Sv) : Prop where
  out : ∀ (bs : List (Option Nat)) (a : Act) (w : World), WI c bs H w → (∀ x ∈ o.op.operands.toList, ∀ s, evS σ x = some s → SRep c.T bs w s (a.eval x)) →
    ∀ K Q, (∀ v w', WI c bs H w' → WExt bs w w' → SRep c.T bs w' r v → K (a.put o.dst v) w') → o.wp c.P a w K Q

/-- The same, of an operation that runs to a value and leaves the world as it is. -/
theorem XS.of_val {c : Cx} {o : Oper} {H : List (List Dv)} {σ : Sg} {r : Sv}
    (h : ∀ (bs : List (Option Nat)) (a : Act) (w : World), WI c bs H w → (∀ x ∈ o.op.operands.toList, ∀ s, evS σ x = some s → SRep c.T bs w s (a.eval x)) →
      ∃ v, (execOp a.eval o).run c.P w = .ok (.value v) w ∧ SRep c.T bs w r v) : XS c o H σ r := by
  refine ⟨fun bs a w hW hx K Q hK => ?_⟩
  obtain ⟨v, hr, hs⟩ := h bs a w hW hx
  unfold Oper.wp
  rw [hr]
  exact hK v w hW (WExt.refl _ _) hs

theorem XS.congr {c : Cx} {o : Oper} {H : List (List Dv)} {σ τ : Sg} {r : Sv} (h : XS c o H σ r) (he : ∀ x ∈ o.op.operands.toList, evS τ x = evS σ x) : XS c o H τ r :=
  ⟨fun bs a w hW hx K Q hK => h.out bs a w hW (fun x hm s hs => hx x hm s ((he x hm).trans hs)) K Q hK⟩

/-! ### 4. States -/
def St (c : Cx) (N : Nat) (σ : Sg) (H : List (List Dv)) (a : Act) (w : World) : Prop :=
  ∃ bs, WI c bs H w ∧ a.tmps.size = N ∧ a.defers = [] ∧ ∀ t s, lk σ t = some s → SRep c.T bs w s (a.tmps.getD t undef)

def put (σ : Sg) (d : Option Tmp) (s : Sv) : Sg := match d with
  | some t => .put t s :: σ
  | none => σ

theorem Act.put_size (a : Act) (d : Option Tmp) (v : Value) : (a.put d v).tmps.size = a.tmps.size := by
  cases d <;> simp [Act.put]
theorem Act.put_defers' (a : Act) (d : Option Tmp) (v : Value) : (a.put d v).defers = a.defers := by
  cases d <;> rfl

/-- Every slot that is written lies in the frame. -/
def dstOk (N : Nat) (d : Option Tmp) : Bool := match d with
  | some t => decide (t < N)
  | none => true

theorem slots_put {c : Cx} {bs : List (Option Nat)} {w : World} {σ : Sg} {a : Act} {N : Nat} (hN : a.tmps.size = N) {d : Option Tmp} (hd : dstOk N d = true) {s : Sv} {v : Value}
    (hs : SRep c.T bs w s v) (h : ∀ t s, lk σ t = some s → SRep c.T bs w s (a.tmps.getD t undef)) :
    ∀ t s', lk (put σ d s) t = some s' → SRep c.T bs w s' ((a.put d v).tmps.getD t undef) := by
  cases d with
  | none => exact h
  | some i =>
    have hi : i < N := by simpa [dstOk] using hd
    intro t s' ht
    simp only [put, lk] at ht
    by_cases he : t = i
    · subst he
      simp only [if_true] at ht
      cases ht
      have : (a.put (some t) v).tmps.getD t undef = v := by simp [Act.put, Array.getD_eq_getD_getElem?, Array.getElem?_setIfInBounds, hN, hi]
      rw [this]; exact hs
    · simp only [he, if_false] at ht
      have : (a.put (some i) v).tmps.getD t undef = a.tmps.getD t undef := by
        simp [Act.put, Array.getD_eq_getD_getElem?, Array.getElem?_setIfInBounds, Ne.symm he]
      rw [this]; exact h t s' ht

theorem ev_rep {c : Cx} {bs : List (Option Nat)} {w : World} {σ : Sg} {a : Act} (h : ∀ t s, lk σ t = some s → SRep c.T bs w s (a.tmps.getD t undef)) :
    ∀ x s, evS σ x = some s → SRep c.T bs w s (a.eval x) := by
  intro x s hs
  cases x with
  | tmp t => exact h t s hs
  | const v =>
    simp only [evS] at hs
    split at hs
    · cases hs; exact Rep.im ‹_›
    · cases hs
  | global g => simp [evS] at hs
  | func f =>
    cases hs
    exact Rep.fn (va := []) (vb := []) rfl rfl (by simp) (by simp)

/-! ### 5. Regions in the order of the text -/
def AEx := Exit
/-- The operations l of ops, from the state (σ, H) on, come to Q. -/
structure AO (c : Cx) (N : Nat) (ops : Array Oper) (l : List Nat) (Q : Sg → List (List Dv) → Prop) (σ : Sg) (H : List (List Dv)) : Prop where
  out : ∀ (R : Exit → Act → World → Prop), (∀ σ' H' a' w', Q σ' H' → St c N σ' H' a' w' → R .normal a' w') → ∀ a w, St c N σ H a w → wpOps c.P ops R l a w

section
variable {c : Cx} {N : Nat} {ops : Array Oper} {l : List Nat} {Q : Sg → List (List Dv) → Prop} {σ : Sg} {H : List (List Dv)}

theorem AO.nil (h : Q σ H) : AO c N ops [] Q σ H := ⟨fun R hR a w hS => hR σ H a w h hS⟩

theorem AO.mono {Q' : Sg → List (List Dv) → Prop} (h : AO c N ops l Q σ H) (hq : ∀ σ H, Q σ H → Q' σ H) : AO c N ops l Q' σ H :=
  ⟨fun R hR a w hS => h.out R (fun σ' H' a' w' hQ hS' => hR σ' H' a' w' (hq _ _ hQ) hS') a w hS⟩

theorem AO.xs {i : Nat} {o : Oper} {r : Sv} (ho : ops[i]? = some o) (hg : o.guard = none) (hd : dstOk N o.dst = true) (hx : XS c o H σ r)
    (h : AO c N ops l Q (put σ o.dst r) H) : AO c N ops (i :: l) Q σ H := by
  refine ⟨fun R hR a w ⟨bs, hW, hN, hD, hs⟩ => ?_⟩
  rw [wpOps_cons]
  simp only [wpOp, ho, Region.wanted, hg, if_true]
  refine .inl (hx.out bs a w hW (fun x _ s he => ev_rep hs x s he) _ _ (fun v w' hW' hE hr => ?_))
  refine h.out R hR _ w' ⟨bs, hW', by rw [Act.put_size]; exact hN, by rw [Act.put_defers']; exact hD, ?_⟩
  exact slots_put hN hd hr (fun t s ht => (hs t s ht).ext hE)

theorem yielded_of {N : Nat} {ops : Array Oper} {c : Cx} {bs : List (Option Nat)} {w : World} {a : Act} {j : Nat} {oj : Oper} {t : Tmp} {b : Bool} (hN : a.tmps.size = N) (hj : ops[j]? = some oj) (hd : oj.dst = some t) (ht : t < N)
    (hs : SRep c.T bs w (.d (.im (.bool b))) (a.tmps.getD t undef)) : yielded ops a.tmps j = some b := by
  have hv : a.tmps.getD t undef = .bool b := Rep.im_inv hs
  have : a.tmps[t]? = some (.bool b) := by
    have hlt : t < a.tmps.size := by rw [hN]; exact ht
    rw [Array.getD_eq_getD_getElem?] at hv
    rw [Array.getElem?_eq_getElem hlt] at hv ⊢
    simpa using hv
  simp [yielded, hj, hd, this]

/-- A guarded operation: it is carried out, or its slot is not told of any more. -/
theorem AO.guard {i j : Nat} {want : Bool} {o oj : Oper} {t : Tmp} {b : Bool} (ho : ops[i]? = some o) (hg : o.guard = some (j, want)) (hj : ops[j]? = some oj) (hdj : oj.dst = some t) (htN : t < N)
    (hb : lk σ t = some (.d (.im (.bool b)))) {r : Sv} (hd : dstOk N o.dst = true) (hx : b = want → XS c o H σ r) (h : b = want → AO c N ops l Q (put σ o.dst r) H)
    (h' : b ≠ want → AO c N ops l Q (put σ o.dst (.d (.tu []))) H) : AO c N ops (i :: l) Q σ H := by
  refine ⟨fun R hR a w ⟨bs, hW, hN, hD, hs⟩ => ?_⟩
  rw [wpOps_cons]
  have hy := yielded_of (c := c) (bs := bs) (w := w) hN hj hdj htN (hs t _ hb)
  simp only [wpOp, ho, Region.wanted, hg, hy]
  by_cases hw : b = want
  · subst hw
    simp only [beq_self_eq_true, if_true]
    refine .inl ((hx rfl).out bs a w hW (fun x _ s he => ev_rep hs x s he) _ _ (fun v w' hW' hE hr => ?_))
    refine (h rfl).out R hR _ w' ⟨bs, hW', by rw [Act.put_size]; exact hN, by rw [Act.put_defers']; exact hD, ?_⟩
    exact slots_put hN hd hr (fun t s ht => (hs t s ht).ext hE)
  · have : (some b == some want) = false := by simpa using hw
    simp only [this, Bool.false_eq_true, if_false]
    refine (h' hw).out R hR _ w ⟨bs, hW, by rw [Act.put_size]; exact hN, by rw [Act.put_defers']; exact hD, ?_⟩
    exact slots_put hN hd (Rep.tu (vs := []) rfl (by simp)) hs
end

/-! ### 6. Code -/
inductive Ax where
  | normal
  | exit (id : Nat)
  | ret

structure AW (c : Cx) (N : Nat) (code : Code) (Q : Ax → Sg → List (List Dv) → Prop) (σ : Sg) (H : List (List Dv)) : Prop where
  out : ∀ (R : Exit → Act → World → Prop), (∀ σ' H' a' w', Q .normal σ' H' → St c N σ' H' a' w' → R .normal a' w') →
    (∀ id σ' H' a' w', Q (.exit id) σ' H' → St c N σ' H' a' w' → R (.exit id) a' w') →
    (∀ σ' H' a' w', Q .ret σ' H' → St c N σ' H' a' w' → R .ret a' w') → ∀ a w, St c N σ H a w → code.wp c.P R a w

section
variable {c : Cx} {N : Nat} {Q : Ax → Sg → List (List Dv) → Prop} {σ : Sg} {H : List (List Dv)}

def thenQ (c : Cx) (N : Nat) (y : Code) (Q : Ax → Sg → List (List Dv) → Prop) : Ax → Sg → List (List Dv) → Prop
  | .normal, σ, H => AW c N y Q σ H
  | e, σ, H => Q e σ H

theorem AW.seq {x y : Code} (h : AW c N x (thenQ c N y Q) σ H) : AW c N (.seq x y) Q σ H := by
  refine ⟨fun R h1 h2 h3 a w hS => ?_⟩
  refine wp_seq (h.out _ ?_ ?_ ?_ a w hS)
  · intro σ' H' a' w' hq hS'
    exact hq.out R h1 h2 h3 a' w' hS'
  · exact fun id σ' H' a' w' hq hS' => h2 id σ' H' a' w' hq hS'
  · exact fun σ' H' a' w' hq hS' => h3 σ' H' a' w' hq hS'

theorem AW.skip (h : Q .normal σ H) : AW c N .skip Q σ H := ⟨fun R h1 _ _ a w hS => wp_skip (h1 σ H a w h hS)⟩
theorem AW.label {i : Nat} (h : Q .normal σ H) : AW c N (.label i) Q σ H := ⟨fun R h1 _ _ a w hS => wp_label (h1 σ H a w h hS)⟩
theorem AW.exit {i : Nat} (h : Q (.exit i) σ H) : AW c N (.exit i) Q σ H := ⟨fun R _ h2 _ a w hS => wp_exit (h2 i σ H a w h hS)⟩
theorem AW.ret (h : Q .ret σ H) : AW c N .ret Q σ H := ⟨fun R _ _ h3 a w hS => wp_ret (h3 σ H a w h hS)⟩

theorem AW.cond {x : Operand} {y z : Code} {b : Bool} (hb : evS σ x = some (.d (.im (.bool b)))) (h1 : b = true → AW c N y Q σ H) (h2 : b = false → AW c N z Q σ H) : AW c N (.cond x y z) Q σ H := by
  refine ⟨fun R k1 k2 k3 a w hS => ?_⟩
  have ⟨bs, hW, hN, hD, hs⟩ := hS
  have hv : a.eval x = .bool b := by
    exact Rep.im_inv (ev_rep hs x _ hb)
  exact wp_cond_split hv (fun hb => (h1 hb).out R k1 k2 k3 a w hS) (fun hb => (h2 hb).out R k1 k2 k3 a w hS)

def blockQ (id : Nat) (Q : Ax → Sg → List (List Dv) → Prop) : Ax → Sg → List (List Dv) → Prop
  | .exit i, σ, H => if i = id then Q .normal σ H else Q (.exit i) σ H
  | e, σ, H => Q e σ H

theorem AW.block {id : Nat} {x : Code} (h : AW c N x (blockQ id Q) σ H) : AW c N (.block id x) Q σ H := by
  refine ⟨fun R h1 h2 h3 a w hS => ?_⟩
  refine wp_block (h.out _ ?_ ?_ ?_ a w hS)
  · exact fun σ' H' a' w' hq hS' => h1 σ' H' a' w' hq hS'
  · intro i σ' H' a' w' hq hS'
    simp only [Exit.inBlock]
    simp only [blockQ] at hq
    split
    · rename_i he; simp only [he, if_true] at hq; exact h1 σ' H' a' w' hq hS'
    · rename_i he; simp only [he, if_false] at hq; exact h2 i σ' H' a' w' hq hS'
  · exact fun σ' H' a' w' hq hS' => h3 σ' H' a' w' hq hS'

theorem AW.region {id : Nat} {ops : Array Oper} (h : AO c N ops (List.range ops.size) (Q .normal) σ H) : AW c N (.region id ops false) Q σ H :=
  ⟨fun R h1 _ _ a w hS => wp_region (h.out R h1 a w hS)⟩

theorem AW.mono {x : Code} {Q' : Ax → Sg → List (List Dv) → Prop} (h : AW c N x Q σ H) (hq : ∀ e σ H, Q e σ H → Q' e σ H) : AW c N x Q' σ H :=
  ⟨fun R h1 h2 h3 a w hS => h.out R (fun σ' H' a' w' q s => h1 σ' H' a' w' (hq _ _ _ q) s) (fun i σ' H' a' w' q s => h2 i σ' H' a' w' (hq _ _ _ q) s)
    (fun σ' H' a' w' q s => h3 σ' H' a' w' (hq _ _ _ q) s) a w hS⟩

def pts : List (Nat × Sv) → Sg → Sg
  | [], σ => σ
  | (t, s) :: l, σ => .put t s :: pts l σ
def SubP (σ : Sg) : List (Nat × Sv) → Prop
  | [] => True
  | (t, s) :: l => lk σ t = some s ∧ SubP σ l
def SubK (σ σ0 : Sg) : List Nat → Prop
  | [] => True
  | t :: L => (∃ s, lk σ t = some s ∧ lk σ0 t = some s) ∧ SubK σ σ0 L
/-- τ tells no more than σ. -/
def Sub (σ τ : Sg) : Prop := ∀ t s, lk τ t = some s → lk σ t = some s
theorem sub_only {σ σ0 : Sg} : ∀ {L : List Nat}, SubK σ σ0 L → Sub σ (.only L :: σ0) := by
  intro L hk t s ht
  simp only [lk] at ht
  split at ht
  · rename_i hin
    induction L with
    | nil => simp [inL] at hin
    | cons a L ih =>
      simp only [inL] at hin
      split at hin
      · rename_i he
        subst he
        obtain ⟨⟨s', h1, h2⟩, _⟩ := hk
        rw [h2] at ht; cases ht; exact h1
      · exact ih hk.2 hin
  · cases ht
theorem sub_pts {σ σ0 : Sg} {L : List Nat} : ∀ {ps : List (Nat × Sv)}, SubP σ ps → SubK σ σ0 L → Sub σ (pts ps (.only L :: σ0))
  | [], _, hk => sub_only hk
  | (i, s') :: ps, hp, hk => fun t s ht => by
    simp only [pts, lk] at ht
    split at ht
    · rename_i he; subst he; cases ht; exact hp.1
    · exact sub_pts hp.2 hk t s ht
theorem St.sub {a : Act} {w : World} {τ : Sg} (h : St c N σ H a w) (hs : Sub σ τ) : St c N τ H a w := by
  obtain ⟨bs, h1, h2, h3, h4⟩ := h
  exact ⟨bs, h1, h2, h3, fun t s ht => h4 t s (hs t s ht)⟩
theorem AW.sub {x : Code} {τ : Sg} (hs : Sub σ τ) (h : AW c N x Q τ H) : AW c N x Q σ H :=
  ⟨fun R h1 h2 h3 a w hS => h.out R h1 h2 h3 a w (hS.sub hs)⟩

def loopQ {α : Type} (L : List Nat) (C : α → List (Nat × Sv)) (HH : α → List (List Dv)) (I : α → Prop) (μ : α → Nat) (n : Nat) (σ0 : Sg) (Q : Ax → Sg → List (List Dv) → Prop) : Ax → Sg → List (List Dv) → Prop
  | .normal, σ, H => ∃ x, I x ∧ μ x < n ∧ SubP σ (C x) ∧ SubK σ σ0 L ∧ H = HH x
  | e, σ, H => Q e σ H

/-- A loop: the slots of L stay as they are, those of C x are told by x. -/
theorem AW.loop {α : Type} (L : List Nat) (C : α → List (Nat × Sv)) (HH : α → List (List Dv)) (I : α → Prop) (μ : α → Nat) {x : Code} (x0 : α) (h0 : I x0) (hs : SubP σ (C x0)) (hk : SubK σ σ L) (hH : H = HH x0)
    (round : ∀ y, I y → AW c N x (loopQ L C HH I μ (μ y) σ Q) (pts (C y) (.only L :: σ)) (HH y)) : AW c N (.loop x) Q σ H := by
  refine ⟨fun R h1 h2 h3 a w hS => ?_⟩
  subst hH
  refine wp_loop_ghost (fun n a w => ∃ y, I y ∧ μ y = n ∧ St c N (pts (C y) (.only L :: σ)) (HH y) a w) (μ x0) ⟨x0, h0, rfl, hS.sub (sub_pts hs hk)⟩ ?_
  rintro n a w ⟨y, hI, rfl, hS⟩
  refine (round y hI).out _ ?_ ?_ ?_ a w hS
  · intro σ' H' a' w' hq hS'
    obtain ⟨z, hz, hlt, hp, hk, rfl⟩ := hq
    exact ⟨μ z, hlt, z, hz, rfl, hS'.sub (sub_pts hp hk)⟩
  · exact fun i σ' H' a' w' hq hS' => h2 i σ' H' a' w' hq hS'
  · exact fun σ' H' a' w' hq hS' => h3 σ' H' a' w' hq hS'

/-- A join. -/
def cutQ {α : Type} (L : List Nat) (C : α → List (Nat × Sv)) (HH : α → List (List Dv)) (I : α → Prop) (σ0 : Sg) (Q : Ax → Sg → List (List Dv) → Prop) : Ax → Sg → List (List Dv) → Prop
  | .normal, σ, H => ∃ x, I x ∧ SubP σ (C x) ∧ SubK σ σ0 L ∧ H = HH x
  | e, σ, H => Q e σ H
theorem AW.cut {α : Type} (L : List Nat) (C : α → List (Nat × Sv)) (HH : α → List (List Dv)) (I : α → Prop) {x y : Code} (h : AW c N x (cutQ L C HH I σ Q) σ H) (hy : ∀ z, I z → AW c N y Q (pts (C z) (.only L :: σ)) (HH z)) : AW c N (.seq x y) Q σ H := by
  refine AW.seq (h.mono fun e σ' H' hq => ?_)
  cases e with
  | normal =>
    obtain ⟨z, hz, hp, hk, rfl⟩ := hq
    exact AW.sub (sub_pts hp hk) (hy z hz)
  | exit i => exact hq
  | ret => exact hq
/-- A join where nothing has turned that is still wanted. -/
def cutPQ (L : List Nat) (p : Prop) (σ0 : Sg) (H0 : List (List Dv)) (Q : Ax → Sg → List (List Dv) → Prop) : Ax → Sg → List (List Dv) → Prop
  | .normal, σ, H => p ∧ SubK σ σ0 L ∧ H = H0
  | e, σ, H => Q e σ H
theorem AW.cutP (L : List Nat) (p : Prop) {x y : Code} (h : AW c N x (cutPQ L p σ H Q) σ H) (hy : p → AW c N y Q (.only L :: σ) H) : AW c N (.seq x y) Q σ H := by
  refine AW.seq (h.mono fun e σ' H' hq => ?_)
  cases e with
  | normal =>
    obtain ⟨hp, hk, rfl⟩ := hq
    exact AW.sub (sub_only hk) (hy hp)
  | exit i => exact hq
  | ret => exact hq
end
end Go.Proofs.Ytgafdhpagifpcaa.Av
