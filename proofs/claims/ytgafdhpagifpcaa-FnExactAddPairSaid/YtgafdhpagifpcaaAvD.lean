/-
  OWN WORK. The calculus: a region whose order is drawn, in which new blocks are made, and whose last operations come in any order.
-/
import Derived.Test.YtgafdhpagifpcaaAvL
namespace Go.Proofs.Ytgafdhpagifpcaa.Av
open Go Go.RowKit
set_option linter.unusedVariables false
set_option linter.unusedSimpArgs false

/-- Every row of the call's own lies below the box k. -/
def rBelow (k : Nat) : Sg → Bool
  | [] => true
  | .put _ (.r b _ _) :: l => decide (b < k) && rBelow k l
  | _ :: l => rBelow k l
theorem rBelow_lk {k : Nat} : ∀ {σ : Sg}, rBelow k σ = true → ∀ t b n sz, lk σ t = some (.r b n sz) → b < k
  | [], _, t, b, n, sz, ht => by simp [lk] at ht
  | .put q s :: l, h, t, b, n, sz, ht => by
    have hl : rBelow k l = true := by cases s <;> simp_all [rBelow]
    simp only [lk] at ht
    split at ht
    · cases ht
      simp [rBelow] at h
      exact h.1
    · exact rBelow_lk hl t b n sz ht
  | .only L :: l, h, t, b, n, sz, ht => by
    simp only [lk] at ht
    split at ht
    · exact rBelow_lk (by simpa [rBelow] using h) t b n sz ht
    · cases ht
  | .kill q :: l, h, t, b, n, sz, ht => by
    simp only [lk] at ht
    split at ht
    · rename_i s hs
      cases s <;> simp only [killS, Option.some.injEq, reduceCtorEq] at ht
      · split at ht <;> cases ht
      · split at ht
        · cases ht
        · cases ht; exact rBelow_lk (by simpa [rBelow] using h) t _ _ _ hs
    · cases ht
  | .trim q :: l, h, t, b, n, sz, ht => by
    simp only [lk] at ht
    split at ht
    · rename_i s hs
      cases s <;> simp only [trimS, Option.some.injEq, reduceCtorEq] at ht
      · split at ht <;> cases ht
      · split at ht
        · cases ht; exact rBelow_lk (by simpa [rBelow] using h) t _ _ _ hs
        · cases ht
    · cases ht

def isAl (ops : Array Oper) (j : Nat) : Bool := match ops[j]? with
  | some o => (match o.op with
    | .alloc _ => true
    | _ => false)
  | none => false
/-- How many of the first i operations make a block. -/
def cntA (ops : Array Oper) : Nat → Nat
  | 0 => 0
  | i + 1 => cntA ops i + if isAl ops i = true then 1 else 0
theorem cntA_lt {ops : Array Oper} {i j : Nat} (h : isAl ops i = true) (hij : i < j) : cntA ops i < cntA ops j := by
  induction j with
  | zero => omega
  | succ j ih =>
    simp only [cntA]
    rcases Nat.eq_or_lt_of_le (Nat.le_of_lt_succ hij) with he | hl
    · subst he; rw [if_pos h]; omega
    · have := ih hl; split <;> omega

def okDraw2 (ops : Array Oper) (m : Nat) : Bool :=
  decide (m ≤ ops.size) && (List.range ops.size).all fun i =>
    match ops[i]? with
    | none => false
    | some o => (o.after.all fun e => !Region.binds .any e || decide (e.on < i)) && (if i < m then okPre ops m i o else (List.range m).all fun j => edgeTo o j)
theorem okDraw2_at {ops : Array Oper} {m : Nat} (h : okDraw2 ops m = true) : m ≤ ops.size ∧ ∀ i o, ops[i]? = some o →
    (∀ e ∈ o.after, Region.binds .any e = true → e.on < i) ∧ (i < m → okPre ops m i o = true) ∧ (¬ i < m → ∀ j, j < m → edgeTo o j = true) := by
  simp only [okDraw2, Bool.and_eq_true, decide_eq_true_eq, List.all_eq_true, List.mem_range] at h
  refine ⟨h.1, fun i o ho => ?_⟩
  have hi : i < ops.size := (Array.getElem?_eq_some_iff.1 ho).1
  have := h.2 i hi
  rw [ho] at this
  simp only [Bool.and_eq_true, Array.all_eq_true] at this
  obtain ⟨h1, h2⟩ := this
  refine ⟨fun e he hb => ?_, fun hm => by rw [if_pos hm] at h2; exact h2, fun hm j hj => ?_⟩
  · obtain ⟨k, hk, rfl⟩ := Array.mem_iff_getElem.1 he
    have := h1 k hk
    rw [hb] at this
    simpa using this
  · rw [if_neg hm] at h2
    simp only [List.all_eq_true, List.mem_range] at h2
    exact h2 j hj

section
variable {c : Cx} {N : Nat} {ops : Array Oper} {σ τ : Sg} {H : List (List Dv)}

/-- One operation alone, whatever comes behind it. -/
theorem wpOp_of_AO {i : Nat} {Q : Sg → List (List Dv) → Prop} (h : AO c N ops [i] Q σ H) {R : Exit → Act → World → Prop} {K : Act → World → Prop}
    (hK : ∀ σ' H' a' w', Q σ' H' → St c N σ' H' a' w' → K a' w') {a : Act} {w : World} (hS : St c N σ H a w) : wpOp c.P ops R i K a w := by
  have h1 := h.out (fun e a w => match e with
    | .normal => K a w
    | _ => False) hK a w hS
  rw [wpOps_cons] at h1
  have hn : wpOps c.P ops (fun e a w => match e with
    | .normal => K a w
    | _ => False) [] = K := by
    funext a w; rfl
  rw [hn] at h1
  unfold wpOp at h1 ⊢
  split at h1
  · exact h1
  · rename_i o ho
    split at h1
    · rename_i hw
      rw [if_pos hw]
      rcases h1 with h1 | ⟨_, a', w', h2⟩
      · left
        unfold Oper.wp at h1 ⊢
        generalize (execOp a.eval o).run c.P w = r at h1
        unfold Oper.upon at h1 ⊢
        split at h1
        · exact h1
        · exact h1
        · exact h1
        · refine Calls.mono h1 ?_
          intro e w' he
          cases e with
          | returned v => exact he
          | panicked ch => exact he.elim
          | outgrown => obtain ⟨a', w'', h2⟩ := he; exact h2.elim
        · exact h1
        · exact h1.elim
        · exact h1.elim
      · exact h2.elim
    · rename_i hw
      rw [if_neg hw]; exact h1

/-- What is left of a region, in any order. -/
structure AY (c : Cx) (N : Nat) (ops : Array Oper) (fuel : Nat) (L : Array Bool) (Q : Sg → List (List Dv) → Prop) (σ : Sg) (H : List (List Dv)) : Prop where
  out : ∀ (R : Exit → Act → World → Prop), (∀ σ' H' a' w', Q σ' H' → St c N σ' H' a' w' → R .normal a' w') → ∀ a w, St c N σ H a w → wpAny c.P .any ops R fuel L a w

theorem AY.nil {fuel : Nat} {L : Array Bool} {Q : Sg → List (List Dv) → Prop} (hr : Region.ready .any ops L = []) (h : Q σ H) : AY c N ops fuel L Q σ H := by
  refine ⟨fun R hR a w hS => ?_⟩
  cases fuel with
  | zero => exact ⟨hr, hR σ H a w h hS⟩
  | succ fuel => exact ⟨fun _ => hR σ H a w h hS, fun i hi => by rw [hr] at hi; cases hi⟩
theorem AY.one {fuel : Nat} {L : Array Bool} {Q : Sg → List (List Dv) → Prop} (i : Nat) (hr : Region.ready .any ops L = [i]) (h : AO c N ops [i] (fun σ' H' => AY c N ops fuel (L.setIfInBounds i true) Q σ' H') σ H) : AY c N ops (fuel + 1) L Q σ H := by
  refine ⟨fun R hR a w hS => ⟨fun he => (by rw [hr] at he; cases he), fun k hk => ?_⟩⟩
  rw [hr] at hk
  obtain rfl := List.mem_singleton.1 hk
  exact wpOp_of_AO h (fun σ' H' a' w' hq hS' => hq.out R hR a' w' hS') hS
theorem AY.two {fuel : Nat} {L : Array Bool} {Q : Sg → List (List Dv) → Prop} (i j : Nat) (hr : Region.ready .any ops L = [i, j]) (h1 : AO c N ops [i] (fun σ' H' => AY c N ops fuel (L.setIfInBounds i true) Q σ' H') σ H)
    (h2 : AO c N ops [j] (fun σ' H' => AY c N ops fuel (L.setIfInBounds j true) Q σ' H') σ H) : AY c N ops (fuel + 1) L Q σ H := by
  refine ⟨fun R hR a w hS => ⟨fun he => (by rw [hr] at he; cases he), fun k hk => ?_⟩⟩
  rw [hr] at hk
  rcases List.mem_cons.1 hk with rfl | hk
  · exact wpOp_of_AO h1 (fun σ' H' a' w' hq hS' => hq.out R hR a' w' hS') hS
  · obtain rfl := List.mem_singleton.1 hk
    exact wpOp_of_AO h2 (fun σ' H' a' w' hq hS' => hq.out R hR a' w' hS') hS

/-- A new block, whose box was named ahead. -/
inductive DR2 (c : Cx) (N : Nat) (ops : Array Oper) (base : Nat) (H : List (List Dv)) : Nat → Sg → Nat → Sg → Prop
  | nil (i : Nat) (σ : Sg) : DR2 c N ops base H i σ i σ
  | cons {i m : Nat} {σ τ : Sg} {o : Oper} {r : Sv} : ops[i]? = some o → dstOk N o.dst = true → GS c N ops o H σ r → DR2 c N ops base H (i + 1) (put σ o.dst r) m τ → DR2 c N ops base H i σ m τ
  | al {i m : Nat} {σ τ : Sg} {o : Oper} {d t : Nat} {zs : List Dv} : ops[i]? = some o → o.op = .alloc t → o.guard = none → o.dst = some d → d < N → zeroD c.P t = some zs → H[base + cntA ops i]? = some zs →
      DR2 c N ops base H (i + 1) (put σ (some d) (.p (base + cntA ops i) 0)) m τ → DR2 c N ops base H i σ m τ
  | gn {i m j t : Nat} {want : Bool} {σ τ : Sg} {o : Oper} : ops[i]? = some o → dstOk N o.dst = true → o.guard = some (j, want) → dstAt ops j = some t → t < N → lk σ t = some (.d (.tu [])) →
      DR2 c N ops base H (i + 1) (put σ o.dst (.d (.tu []))) m τ → DR2 c N ops base H i σ m τ

variable {base : Nat}
theorem DR2.le {i m : Nat} (h : DR2 c N ops base H i σ m τ) : i ≤ m := by
  induction h with
  | nil => exact Nat.le_refl _
  | cons _ _ _ _ ih => omega
  | al _ _ _ _ _ _ _ _ ih => omega
  | gn _ _ _ _ _ _ _ ih => omega
theorem DR2.lk {i m : Nat} (h : DR2 c N ops base H i σ m τ) : ∀ t, (∀ j, i ≤ j → j < m → dstAt ops j ≠ some t) → lk τ t = lk σ t := by
  induction h with
  | nil => exact fun _ _ => rfl
  | cons ho hd hx hr ih =>
    intro t ht
    rw [ih t (fun j hj hm => ht j (by omega) hm)]
    refine lk_put_ne ?_
    have := ht _ (Nat.le_refl _) (by have := hr.le; omega)
    simpa [dstAt, ho] using this
  | al ho h1 h2 h3 h4 h5 h6 hr ih =>
    intro t ht
    rw [ih t (fun j hj hm => ht j (by omega) hm)]
    refine lk_put_ne ?_
    have := ht _ (Nat.le_refl _) (by have := hr.le; omega)
    rw [← h3]
    simpa [dstAt, ho] using this
  | gn ho hd _ _ _ _ hr ih =>
    intro t ht
    rw [ih t (fun j hj hm => ht j (by omega) hm)]
    refine lk_put_ne ?_
    have := ht _ (Nat.le_refl _) (by have := hr.le; omega)
    simpa [dstAt, ho] using this
/-- What an operation of the first part does. -/
def Step2 (c : Cx) (N : Nat) (ops : Array Oper) (base : Nat) (H : List (List Dv)) (j : Nat) (o : Oper) (r : Sv) (σj : Sg) : Prop :=
  GS c N ops o H σj r ∨ (∃ t zs, o.op = .alloc t ∧ o.guard = none ∧ zeroD c.P t = some zs ∧ H[base + cntA ops j]? = some zs ∧ r = .p (base + cntA ops j) 0) ∨
    ∃ j' want t, o.guard = some (j', want) ∧ dstAt ops j' = some t ∧ t < N ∧ lk σj t = some (.d (.tu [])) ∧ r = .d (.tu [])
theorem DR2.get {i m : Nat} (h : DR2 c N ops base H i σ m τ) : ∀ j, i ≤ j → j < m → ∃ o r σj, ops[j]? = some o ∧ dstOk N o.dst = true ∧ Step2 c N ops base H j o r σj ∧
    (∀ t, (∀ k, j ≤ k → k < m → dstAt ops k ≠ some t) → Av.lk τ t = Av.lk σj t) ∧ (∀ t, o.dst = some t → (∀ k, j < k → k < m → dstAt ops k ≠ some t) → Av.lk τ t = some r) := by
  induction h with
  | nil => intro j h1 h2; omega
  | @cons i m σ τ o r ho hd hx hr ih =>
    intro j h1 h2
    rcases Nat.eq_or_lt_of_le h1 with he | hlt
    · subst he
      refine ⟨o, r, σ, ho, hd, .inl hx, fun t ht => DR2.lk (.cons ho hd hx hr) t ht, fun t hdt ht => ?_⟩
      rw [hr.lk t (fun k hk hm => ht k (by omega) hm), hdt]
      exact lk_put_eq
    · exact ih j hlt h2
  | @al i m σ τ o d t zs ho q1 q2 q3 q4 q5 q6 hr ih =>
    intro j h1 h2
    rcases Nat.eq_or_lt_of_le h1 with he | hlt
    · subst he
      refine ⟨o, _, σ, ho, by rw [q3]; simpa [dstOk] using q4, .inr (.inl ⟨t, zs, q1, q2, q5, q6, rfl⟩), fun t' ht => DR2.lk (.al ho q1 q2 q3 q4 q5 q6 hr) t' ht, fun t' hdt ht => ?_⟩
      rw [hr.lk t' (fun k hk hm => ht k (by omega) hm)]
      rw [q3] at hdt; cases hdt
      exact lk_put_eq
    · exact ih j hlt h2
  | @gn i m j' t want σ τ o ho hd q1 q2 q3 q4 hr ih =>
    intro j h1 h2
    rcases Nat.eq_or_lt_of_le h1 with he | hlt
    · subst he
      refine ⟨o, _, σ, ho, hd, .inr (.inr ⟨j', want, t, q1, q2, q3, q4, rfl⟩), fun t' ht => DR2.lk (.gn ho hd q1 q2 q3 q4 hr) t' ht, fun t' hdt ht => ?_⟩
      rw [hr.lk t' (fun k hk hm => ht k (by omega) hm), hdt]
      exact lk_put_eq
    · exact ih j hlt h2

/-- A box that was named ahead gets its block. -/
theorem WI.fill {bs : List (Option Nat)} {w : World} (hW : WI c bs H w) {b : Nat} (hb : bs[b]? = some none) (hb0 : c.b0.length ≤ b) {cells : Array Value} {t : TypeId} {ds : List Dv} (hH : H[b]? = some ds) (hl : ds.length ≤ cells.size) (hlf : ∀ x ∈ ds, leaf x = true)
    (hr : ∀ (i : Nat) (d : Dv) (u : Value), ds[i]? = some d → cells[i]? = some u → Rep (TT c.T bs) w d u) :
    WI c (bs.set b (some w.heap.size)) H { w with heap := w.heap.push (.cells cells t) } ∧
    (∀ s v, (∀ b' n sz, s = .r b' n sz → b' ≠ b) → SRep c.T bs w s v → SRep c.T (bs.set b (some w.heap.size)) { w with heap := w.heap.push (.cells cells t) } s v) := by
  have hblt : b < bs.length := (List.getElem?_eq_some_iff.1 hb).1
  have hold : ∀ g, g < w.heap.size → (w.heap.push (.cells cells t))[g]? = w.heap[g]? := fun g hg => by
    rw [Array.getElem?_push]; rw [if_neg (by omega)]
  have hset : ∀ i, (bs.set b (some w.heap.size))[i]? = if i = b then some (some w.heap.size) else bs[i]? := fun i => by
    rw [List.getElem?_set]
    by_cases h : b = i
    · subst h; simp [hblt]
    · rw [if_neg h, if_neg (Ne.symm h)]
  have hmem : ∀ g, some g ∈ bs.set b (some w.heap.size) → some g ∈ bs ∨ g = w.heap.size := fun g hg => by
    rcases List.mem_or_eq_of_mem_set hg with h | h
    · exact .inl h
    · exact .inr (by cases h; rfl)
  have hrep : ∀ d v, Rep (TT c.T bs) w d v → Rep (TT c.T (bs.set b (some w.heap.size))) { w with heap := w.heap.push (.cells cells t) } d v := fun d v h =>
    h.mono (fun g hg hT => by
      rcases hT with h | h
      · exact .inl h
      · rcases hmem g h with h | h
        · exact .inr h
        · omega) (fun g hg _ => hold g hg)
  refine ⟨⟨hW.os, hW.tape, hW.output, by simp; have := hW.size; omega, fun g hg hn => (hold g (Nat.lt_of_lt_of_le hg hW.size)).trans (hW.old g hg hn), hW.told, fun i g h => ?_, fun i g h => ?_, fun g h => ?_, fun i j g h1 h2 => ?_, by simp [hW.len],
    fun g hg vs t' hv => ?_, fun i g ds' h1 h2 => ?_⟩, fun s v hr' hs => ?_⟩
  · rw [hset] at h
    split at h
    · rename_i he
      cases h; subst he
      exact .inr ⟨hb0, hW.size⟩
    · exact hW.own i g h
  · rw [hset, if_neg (fun he => by
      have := hW.ext i g h
      rw [he, hb] at this; cases this)]
    exact hW.ext i g h
  · rcases hmem g h with h | h
    · have := hW.blt g h; simp; omega
    · subst h; simp
  · rw [hset] at h1 h2
    split at h1 <;> split at h2
    · omega
    · cases h1; have := hW.blt _ (List.mem_of_getElem? h2); omega
    · cases h2; have := hW.blt _ (List.mem_of_getElem? h1); omega
    · exact hW.nd i j g h1 h2
  · obtain ⟨vs', h1, h2⟩ := hW.erow g hg vs t' hv
    exact ⟨vs', (hold g (Array.getElem?_eq_some_iff.1 h1).1).trans h1, h2⟩
  · rw [hset] at h1
    split at h1
    · rename_i he
      subst he
      rw [hH] at h2
      cases h1; cases h2
      exact ⟨cells, t, by simp, hl, hlf, fun j d v hd hv => hrep d v (hr j d v hd hv)⟩
    · obtain ⟨vs, t', k1, k2, k3, k4⟩ := hW.box i g ds' h1 h2
      exact ⟨vs, t', (hold g (Array.getElem?_eq_some_iff.1 k1).1).trans k1, k2, k3, fun j d v hd hv => hrep d v (k4 j d v hd hv)⟩
  · cases s with
    | d x => exact hrep x v hs
    | p b' o =>
      obtain ⟨g, hb', hv⟩ := hs
      exact ⟨g, by rw [hset, if_neg (fun he => by rw [he, hb] at hb'; cases hb')]; exact hb', hv⟩
    | e ds' =>
      obtain ⟨g, off, cs, t', fr, hv, hh, hn, hlf', hr''⟩ := hs
      have hg := (Array.getElem?_eq_some_iff.1 hh).1
      refine ⟨g, off, cs, t', fr, hv, (hold g hg).trans hh, fun hT => ?_, hlf', fun j d hd => ?_⟩
      · rcases hT with h | h
        · exact hn (.inl h)
        · rcases hmem g h with h | h
          · exact hn (.inr h)
          · omega
      · obtain ⟨u, hu, hr3⟩ := hr'' j d hd
        exact ⟨u, hu, hrep d u hr3⟩
    | r b' n sz =>
      have hne := hr' b' n sz rfl
      rcases hs with ⟨h1, h2, h3⟩ | ⟨g, cp, cs, t', hb', hv, hn, hh, hs'⟩
      · exact .inl ⟨h1, h2, by rw [hset, if_neg hne]; exact h3⟩
      · exact .inr ⟨g, cp, cs, t', by rw [hset, if_neg hne]; exact hb', hv, hn, (hold g (Array.getElem?_eq_some_iff.1 hh).1).trans hh, hs'⟩
    | u => trivial

theorem alloc_run {t : TypeId} {zs : List Dv} (hz : zeroD c.P t = some zs) {o : Oper} (hop : o.op = .alloc t) (T : Nat → Prop) (a : Act) (w : World) :
    ∃ cells : Array Value, (execOp a.eval o).run c.P w = .ok (.value (.pointer (some ⟨w.heap.size, 0, none⟩))) { w with heap := w.heap.push (.cells cells t) } ∧ zs.length ≤ cells.size ∧ (∀ x ∈ zs, leaf x = true) ∧
      ∀ (i : Nat) (d : Dv) (u : Value), zs[i]? = some d → cells[i]? = some u → Rep T w d u := by
  unfold zeroD at hz
  cases hi : c.P.info? t with
  | none => rw [hi] at hz; cases hz
  | some q =>
    rw [hi] at hz
    simp only at hz
    cases hzv : q.zero with
    | none => rw [hzv] at hz; cases hz
    | some zv =>
      rw [hzv] at hz
      simp only at hz
      split at hz
      · rename_i hone
        cases hz
        simp only [Array.all_eq_true_iff_forall_mem] at hone
        refine ⟨zv.cells, ?_, by simp, ?_, fun k d u hd hu => ?_⟩
        · simp [execOp, hop, Instr.alloc, zeroValue, typeInfo, hi, hzv, newVar_run]
        · intro x hx
          obtain ⟨u, hu, rfl⟩ := List.mem_map.1 hx
          exact ofV_leaf (hone u (by simpa using hu))
        · simp only [List.getElem?_map, Option.map_eq_some_iff] at hd
          obtain ⟨u', hu', rfl⟩ := hd
          have : zv.cells[k]? = some u' := by simpa using hu'
          rw [this] at hu; cases hu
          exact ofV_rep _ w (hone _ (Array.mem_of_getElem? this))
      · cases hz

/-- The operations listed are the first m. -/
def firstL (ops : Array Oper) (m : Nat) : Array Bool := Array.ofFn (n := ops.size) fun i => decide (i.val < m)
theorem arr_eq {L : Array Bool} {m : Nat} (hs : L.size = ops.size) (hL : ∀ j, j < ops.size → L.getD j false = decide (j < m)) : L = firstL ops m := by
  apply Array.ext
  · simp [firstL, hs]
  · intro i h1 h2
    have := hL i (by omega)
    rw [Array.getD_eq_getD_getElem?, Array.getElem?_eq_getElem h1] at this
    simp [firstL]
    simpa using this

set_option maxHeartbeats 1000000 in
theorem pre_any2 {m : Nat} (hok : okDraw2 ops m = true) (hbase : c.b0.length ≤ base) (hdr : DR2 c N ops base H 0 σ m τ) (hrσ : rBelow base σ = true) (hrτ : rBelow base τ = true) {R : Exit → Act → World → Prop}
    (hend : ∀ bs a w, WI c bs H w → a.tmps.size = N → a.defers = [] → (∀ t s, lk τ t = some s → SRep c.T bs w s (a.tmps.getD t undef)) → ∀ fuel, ops.size - m ≤ fuel → wpAny c.P .any ops R fuel (firstL ops m) a w) :
    ∀ (n fuel : Nat) (L : Array Bool) (bs : List (Option Nat)) (a : Act) (w : World), n = ((List.range m).filter fun i => !L.getD i false).length → n + (ops.size - m) ≤ fuel → L.size = ops.size →
    (∀ j, m ≤ j → j < ops.size → L.getD j false = false) → (∀ j, j < m → isAl ops j = true → L.getD j false = false → bs[base + cntA ops j]? = some none) →
    WI c bs H w → a.tmps.size = N → a.defers = [] → (∀ t s, lk σ t = some s → (∀ j, j < m → L.getD j false = true → dstAt ops j ≠ some t) → SRep c.T bs w s (a.tmps.getD t undef)) →
    (∀ j t s, j < m → L.getD j false = true → dstAt ops j = some t → lk τ t = some s → SRep c.T bs w s (a.tmps.getD t undef)) →
    wpAny c.P .any ops R fuel L a w := by
  obtain ⟨hm, hat⟩ := okDraw2_at hok
  have hne : ∀ i j t, i < m → j < m → dstAt ops i = some t → dstAt ops j = some t → i = j := by
    intro i j t hi hj h1 h2
    obtain ⟨o, ho⟩ : ∃ o, ops[i]? = some o := ⟨_, Array.getElem?_eq_getElem (by omega)⟩
    have hod : o.dst = some t := by simpa [dstAt, ho] using h1
    rcases ((okPre_at ((hat i o ho).2.1 hi)).2 j t (by omega) h2).2 hod with h | h
    · omega
    · exact h.symm
  intro n
  induction n with
  | zero =>
    intro fuel L bs a w hn hf hs hL hbs hW hN hD h1 h2
    have hall : ∀ j, j < m → L.getD j false = true := by
      intro j hj
      have hnil : ((List.range m).filter fun i => !L.getD i false) = [] := List.eq_nil_of_length_eq_zero hn.symm
      have := List.filter_eq_nil_iff.1 hnil j (List.mem_range.2 hj)
      simpa using this
    have hLm : L = firstL ops m := arr_eq hs (fun j hj => by
      by_cases hjm : j < m
      · rw [hall j hjm]; simp [hjm]
      · rw [hL j (by omega) hj]; simp [hjm])
    rw [hLm]
    refine hend bs a w hW hN hD (fun t s ht => ?_) fuel (by omega)
    by_cases he : ∃ j, j < m ∧ dstAt ops j = some t
    · obtain ⟨j, hj, hdj⟩ := he
      exact h2 j t s hj (hall j hj) hdj ht
    · have hnot : ∀ j, 0 ≤ j → j < m → dstAt ops j ≠ some t := fun j _ hj hd => he ⟨j, hj, hd⟩
      rw [hdr.lk t hnot] at ht
      exact h1 t s ht (fun j hj _ => hnot j (Nat.zero_le _) hj)
  | succ n ih =>
    intro fuel L bs a w hn hf hs hL hbs hW hN hD h1 h2
    obtain ⟨fuel, rfl⟩ : ∃ f, fuel = f + 1 := ⟨fuel - 1, by omega⟩
    have hex : ∃ i, i < m ∧ L.getD i false = false := by
      have hne : ((List.range m).filter fun i => !L.getD i false) ≠ [] := by
        intro he; rw [he] at hn; simp at hn
      obtain ⟨i, hi⟩ := List.exists_mem_of_ne_nil _ hne
      simp at hi
      exact ⟨i, hi.1, by simpa using hi.2⟩
    refine ⟨fun he => ?_, fun i hi => ?_⟩
    · exfalso
      obtain ⟨i, ⟨hi, hl⟩, hleast⟩ := exists_least hex
      have : i ∈ Region.ready .any ops L := by
        refine ready_iff.2 ⟨ops[i], Array.getElem?_eq_getElem (by omega), ?_, ?_⟩
        · rw [Array.getD_eq_getD_getElem?] at hl ⊢
          rw [Array.getElem?_eq_getElem (by omega)] at hl ⊢
          simpa using hl
        · rw [Array.all_eq_true]
          intro k hk
          cases hbd : Region.binds .any (ops[i].after[k]) with
          | false => simp
          | true =>
            have hlt := (hat i _ (Array.getElem?_eq_getElem (by omega))).1 _ (Array.getElem_mem hk) hbd
            have : L.getD (ops[i].after[k]).on false = true := by
              cases hb : L.getD (ops[i].after[k]).on false with
              | true => rfl
              | false => have := hleast _ ⟨by omega, hb⟩; omega
            rw [this]; simp
      rw [he] at this
      cases this
    · obtain ⟨o, ho, hl, hr⟩ := ready_iff.1 hi
      have hio : i < ops.size := (Array.getElem?_eq_some_iff.1 ho).1
      have hli : L.getD i false = false := by
        rw [Array.getD_eq_getD_getElem?] at hl ⊢
        rw [Array.getElem?_eq_getElem (by omega)] at hl ⊢
        simpa using hl
      have him : i < m := by
        rcases Nat.lt_or_ge i m with h | h
        · exact h
        · obtain ⟨j, hj, hjl⟩ := hex
          have := edge_listed ((hat i o ho).2.2 (by omega) j hj) hr
          rw [this] at hjl; cases hjl
      obtain ⟨hgn, hpj⟩ := okPre_at ((hat i o ho).2.1 him)
      obtain ⟨o', r, σj, ho', hdN, hgs, hx1, hx2⟩ := hdr.get i (Nat.zero_le _) him
      rw [ho] at ho'
      cases ho'
      have hseti : ∀ j, (L.setIfInBounds i true).getD j false = if j = i then true else L.getD j false := by
        intro j
        by_cases hji : j = i
        · subst hji
          simp [Array.getD_eq_getD_getElem?, Array.getElem?_setIfInBounds, hs, hio]
        · simp only [hji, if_false, Array.getD_eq_getD_getElem?, Array.getElem?_setIfInBounds, Ne.symm hji]
      have hopd : ∀ t, Operand.tmp t ∈ o.op.operands.toList → ∀ k, i ≤ k → k < m → dstAt ops k ≠ some t := by
        intro t ht k hk hkm hd
        have := ((hpj k t (by omega) hd).1 (.inl ht)).1
        omega
      have hdi : ∀ t, o.dst = some t → dstAt ops i = some t := fun t ht => by simp [dstAt, ho, ht]
      have hxo : ∀ x ∈ o.op.operands.toList, ∀ s, evS σj x = some s → SRep c.T bs w s (a.eval x) := by
        intro x hxm s hs
        cases x with
        | tmp t =>
          have hlk : lk τ t = some s := (hx1 t (hopd t hxm)).trans hs
          by_cases he : ∃ j, j < m ∧ dstAt ops j = some t
          · obtain ⟨j, hj, hdj⟩ := he
            exact h2 j t s hj (edge_listed ((hpj j t (by omega) hdj).1 (.inl hxm)).2 hr) hdj hlk
          · have hnot : ∀ j, 0 ≤ j → j < m → dstAt ops j ≠ some t := fun j _ hj hd => he ⟨j, hj, hd⟩
            rw [hdr.lk t hnot] at hlk
            exact h1 t s hlk (fun j hj _ => hnot j (Nat.zero_le _) hj)
        | const v =>
          simp only [evS] at hs
          split at hs
          · cases hs; exact Rep.im ‹_›
          · cases hs
        | global g => simp [evS] at hs
        | func f => cases hs; exact Rep.fn (va := []) (vb := []) rfl rfl (by simp) (by simp)
      -- whatever the operation does: the rest goes on
      have hB : ∀ bs' v w', (∀ j, j < m → j ≠ i → isAl ops j = true → L.getD j false = false → bs'[base + cntA ops j]? = some none) → WI c bs' H w' →
          (∀ s v, (∀ b' n sz, s = .r b' n sz → b' < base) → SRep c.T bs w s v → SRep c.T bs' w' s v) → SRep c.T bs' w' r v → wpAny c.P .any ops R fuel (L.setIfInBounds i true) (a.put o.dst v) w' := by
        intro bs' v w' hbs' hW' hE hrep
        refine ih fuel _ bs' _ w' ?_ (by omega) (by simpa using hs) ?_ ?_ hW' (by rw [Act.put_size]; exact hN) (by rw [Act.put_defers']; exact hD) ?_ ?_
        · have hmem : i ∈ (List.range m).filter fun i => !L.getD i false := List.mem_filter.2 ⟨List.mem_range.2 him, by rw [hli]; rfl⟩
          have hnd : ((List.range m).filter fun i => !L.getD i false).Nodup := List.nodup_range.filter _
          have : ((List.range m).filter fun j => !(L.setIfInBounds i true).getD j false) = ((List.range m).filter fun i => !L.getD i false).erase i := by
            rw [hnd.erase_eq_filter, List.filter_filter]
            refine List.filter_congr (fun j _ => ?_)
            rw [hseti j]
            by_cases hji : j = i
            · subst hji; simp
            · simp [hji]
          rw [this, List.length_erase_of_mem hmem]
          omega
        · intro j hj hjs
          rw [hseti j, if_neg (by omega)]
          exact hL j hj hjs
        · intro j hj hal hlj
          rw [hseti] at hlj
          split at hlj
          · cases hlj
          · rename_i hji
            exact hbs' j hj hji hal hlj
        · intro t s ht hnd
          have hti : o.dst ≠ some t := fun he => hnd i him (by rw [hseti, if_pos rfl]) (hdi t he)
          have := hE s _ (fun b' n sz hs => rBelow_lk hrσ t b' n sz (by rw [ht, hs])) (h1 t s ht (fun j hj hl => hnd j hj (by rw [hseti]; split <;> first | rfl | exact hl)))
          have he : (a.put o.dst v).tmps.getD t undef = a.tmps.getD t undef := by
            cases hd : o.dst with
            | none => rfl
            | some q =>
              have : q ≠ t := fun e => hti (by rw [hd, e])
              simp [Act.put, Array.getD_eq_getD_getElem?, Array.getElem?_setIfInBounds, this]
          rw [he]; exact this
        · intro j t s hj hl hd ht
          rw [hseti] at hl
          by_cases hji : j = i
          · subst hji
            have hod : o.dst = some t := by simpa [dstAt, ho] using hd
            have hlk := hx2 t hod (fun k hk hkm hdk => by
              have := hne j k t him hkm hd hdk
              omega)
            rw [hlk] at ht
            cases ht
            have htN : t < N := by rw [hod] at hdN; simpa [dstOk] using hdN
            have he : (a.put o.dst v).tmps.getD t undef = v := by
              rw [hod]; simp [Act.put, Array.getD_eq_getD_getElem?, Array.getElem?_setIfInBounds, hN, htN]
            rw [he]; exact hrep
          · rw [if_neg hji] at hl
            have hti : o.dst ≠ some t := fun he => hji (hne j i t hj him hd (hdi t he))
            have he : (a.put o.dst v).tmps.getD t undef = a.tmps.getD t undef := by
              cases hdd : o.dst with
              | none => rfl
              | some q =>
                have : q ≠ t := fun e => hti (by rw [hdd, e])
                simp [Act.put, Array.getD_eq_getD_getElem?, Array.getElem?_setIfInBounds, this]
            rw [he]
            exact hE s _ (fun b' n sz hs => rBelow_lk hrτ t b' n sz (by rw [ht, hs])) (h2 j t s hj hl hd ht)
      have hB0 : ∀ v w', WI c bs H w' → WExt bs w w' → SRep c.T bs w' r v → wpAny c.P .any ops R fuel (L.setIfInBounds i true) (a.put o.dst v) w' := fun v w' hW' hE hrep =>
        hB bs v w' (fun j hj _ hal hlj => hbs j hj hal hlj) hW' (fun s v _ h => h.ext hE) hrep
      rcases hgs with hgs | ⟨t, zs, hop, hg0, hz, hHb, rfl⟩ | ⟨j, want, t, hg, hdj, htN, hlk, rfl⟩
      · rcases hgs with ⟨hg0, hx⟩ | ⟨j, want, t, b, hg, hdj, htN, hlk, hcase⟩
        · simp only [wpOp, ho, Region.wanted, hg0, if_true]
          exact .inl (hx.out bs a w hW hxo _ _ hB0)
        · obtain ⟨hji, hje⟩ := hgn j want hg
          obtain ⟨oj, hoj⟩ : ∃ oj, ops[j]? = some oj := ⟨_, Array.getElem?_eq_getElem (by omega)⟩
          have hdst : oj.dst = some t := by simpa [dstAt, hoj] using hdj
          have hgt : gSlot ops o = some t := by unfold gSlot; rw [hg]; exact hdj
          have hτ : lk τ t = some (.d (.im (.bool b))) := (hx1 t (fun k hk hkm hd => by
            have := ((hpj k t (by omega) hd).1 (.inr hgt)).1
            omega)).trans hlk
          have hy := yielded_of (c := c) (bs := bs) (w := w) hN hoj hdst htN (h2 j t _ (by omega) (edge_listed hje hr) hdj hτ)
          simp only [wpOp, ho, Region.wanted, hg, hy]
          rcases hcase with ⟨hw, hx⟩ | ⟨hw, hr0⟩
          · subst hw
            simp only [beq_self_eq_true, if_true]
            exact .inl (hx.out bs a w hW hxo _ _ hB0)
          · have : (some b == some want) = false := by simpa using hw
            simp only [this, Bool.false_eq_true, if_false]
            subst hr0
            exact hB0 undef w hW (WExt.refl _ _) (Rep.tu (vs := []) rfl (by simp))
      · have hal : isAl ops i = true := by simp [isAl, ho, hop]
        have hbn := hbs i him hal hli
        obtain ⟨cells, k1, k2, k3, k4⟩ := alloc_run (c := c) hz hop (TT c.T bs) a w
        obtain ⟨q1, q2⟩ := hW.fill (t := t) hbn (by omega) hHb k2 k3 k4
        simp only [wpOp, ho, Region.wanted, hg0, if_true]
        refine .inl ?_
        unfold Oper.wp
        rw [k1]
        refine hB _ _ _ ?_ q1 (fun s v hb hs => q2 s v (fun b' n sz he => by have := hb b' n sz he; omega) hs) ?_
        · intro j hj hji hal' hlj
          have hc : base + cntA ops j ≠ base + cntA ops i := by
            rcases Nat.lt_or_ge j i with h | h
            · have := cntA_lt hal' h; omega
            · have := cntA_lt hal (show i < j by omega); omega
          rw [List.getElem?_set_ne (Ne.symm hc)]
          exact hbs j hj hal' hlj
        · refine ⟨w.heap.size, ?_, rfl⟩
          have := (List.getElem?_eq_some_iff.1 hbn).1
          rw [List.getElem?_set_self this]
      · obtain ⟨hji, hje⟩ := hgn j want hg
        obtain ⟨oj, hoj⟩ : ∃ oj, ops[j]? = some oj := ⟨_, Array.getElem?_eq_getElem (by omega)⟩
        have hdst : oj.dst = some t := by simpa [dstAt, hoj] using hdj
        have hgt : gSlot ops o = some t := by unfold gSlot; rw [hg]; exact hdj
        have hτ : lk τ t = some (.d (.tu [])) := (hx1 t (fun k hk hkm hd => by
          have := ((hpj k t (by omega) hd).1 (.inr hgt)).1
          omega)).trans hlk
        have hy := yielded_none (c := c) (bs := bs) (w := w) hN hoj hdst htN (h2 j t _ (by omega) (edge_listed hje hr) hdj hτ)
        simp only [wpOp, ho, Region.wanted, hg, hy]
        have : ((none : Option Bool) == some want) = false := rfl
        simp only [this, Bool.false_eq_true, if_false]
        exact hB0 undef w hW (WExt.refl _ _) (Rep.tu (vs := []) rfl (by simp))

theorem WI.name {bs : List (Option Nat)} {w : World} (hW : WI c bs H w) (Zs : List (List Dv)) :
    WI c (bs ++ List.replicate Zs.length none) (H ++ Zs) w ∧ ∀ s v, SRep c.T bs w s v → SRep c.T (bs ++ List.replicate Zs.length none) w s v := by
  have hmem : ∀ g, some g ∈ bs ++ List.replicate Zs.length (none : Option Nat) ↔ some g ∈ bs := fun g => by
    rw [List.mem_append]
    exact ⟨fun h => h.resolve_right (fun h => by have := List.eq_of_mem_replicate h; cases this), .inl⟩
  have hget : ∀ i g, (bs ++ List.replicate Zs.length (none : Option Nat))[i]? = some (some g) → bs[i]? = some (some g) := fun i g h => by
    rcases Nat.lt_or_ge i bs.length with hi | hi
    · rwa [List.getElem?_append_left hi] at h
    · rw [List.getElem?_append_right hi, List.getElem?_replicate] at h
      split at h <;> cases h
  have hup : ∀ i q, bs[i]? = some q → (bs ++ List.replicate Zs.length (none : Option Nat))[i]? = some q := fun i q h => by
    rw [List.getElem?_append_left (List.getElem?_eq_some_iff.1 h).1]; exact h
  have hT : ∀ g, TT c.T (bs ++ List.replicate Zs.length (none : Option Nat)) g → TT c.T bs g := fun g h => by
    rcases h with h | h
    · exact .inl h
    · exact .inr ((hmem g).1 h)
  have hrep : ∀ d v, Rep (TT c.T bs) w d v → Rep (TT c.T (bs ++ List.replicate Zs.length none)) w d v := fun d v h => h.mono (fun g _ h => hT g h) (fun _ _ _ => rfl)
  refine ⟨⟨hW.os, hW.tape, hW.output, hW.size, hW.old, hW.told, fun i g h => hW.own i g (hget i g h), fun i g h => hup i _ (hW.ext i g h), fun g h => hW.blt g ((hmem g).1 h), fun i j g h1 h2 => hW.nd i j g (hget i g h1) (hget j g h2), by simp [hW.len],
    hW.erow, fun i g ds h1 h2 => ?_⟩, fun s v hs => ?_⟩
  · have h1' := hget i g h1
    have hi := (List.getElem?_eq_some_iff.1 h1').1
    rw [List.getElem?_append_left (by rw [hW.len]; exact hi)] at h2
    obtain ⟨vs, t, k1, k2, k3, k4⟩ := hW.box i g ds h1' h2
    exact ⟨vs, t, k1, k2, k3, fun j d v hd hv => hrep d v (k4 j d v hd hv)⟩
  · cases s with
    | d x => exact hrep x v hs
    | p b o => obtain ⟨g, hb, hv⟩ := hs; exact ⟨g, hup b _ hb, hv⟩
    | e ds =>
      obtain ⟨g, off, cs, t, fr, hv, hh, hn, hlf, hr⟩ := hs
      exact ⟨g, off, cs, t, fr, hv, hh, fun h => hn (hT g h), hlf, fun j d hd => by
        obtain ⟨u, hu, hr'⟩ := hr j d hd
        exact ⟨u, hu, hrep d u hr'⟩⟩
    | r b n sz =>
      rcases hs with ⟨h1, h2, h3⟩ | ⟨g, cp, cs, t, hb, hv, hn, hh, hs'⟩
      · exact .inl ⟨h1, h2, hup b _ h3⟩
      · exact .inr ⟨g, cp, cs, t, hup b _ hb, hv, hn, hh, hs'⟩
    | u => trivial

/-- The drawn region, gone through in the order of its text. -/
structure DC2 (c : Cx) (N : Nat) (ops : Array Oper) (base : Nat) (i : Nat) (Q : Sg → List (List Dv) → Prop) (σ : Sg) (H : List (List Dv)) : Prop where
  out : ∃ m τ, DR2 c N ops base H i σ m τ ∧ okDraw2 ops m = true ∧ rBelow base τ = true ∧ ∀ fuel, ops.size - m ≤ fuel → AY c N ops fuel (firstL ops m) Q τ H
theorem DC2.cons {i : Nat} {o : Oper} {r : Sv} {Q : Sg → List (List Dv) → Prop} (ho : ops[i]? = some o) (hg : o.guard = none) (hd : dstOk N o.dst = true) (hx : XS c o H σ r) (h : DC2 c N ops base (i + 1) Q (put σ o.dst r) H) : DC2 c N ops base i Q σ H := by
  obtain ⟨m, τ, h1, h2, h3⟩ := h.out
  exact ⟨m, τ, .cons ho hd (.inl ⟨hg, hx⟩) h1, h2, h3⟩
theorem DC2.split {i : Nat} {Q : Sg → List (List Dv) → Prop} (t : Nat) {b : Bool} (hb : lk σ t = some (.d (.im (.bool b)))) (h1 : b = true → DC2 c N ops base i Q σ H) (h2 : b = false → DC2 c N ops base i Q σ H) : DC2 c N ops base i Q σ H := by
  cases b
  · exact h2 rfl
  · exact h1 rfl
theorem DC2.gyes {i j : Nat} {want : Bool} {o oj : Oper} {t : Tmp} {b : Bool} {Q : Sg → List (List Dv) → Prop} (ho : ops[i]? = some o) (hg : o.guard = some (j, want)) (hj : ops[j]? = some oj) (hdj : oj.dst = some t) (htN : dstOk N (some t) = true)
    (hb : lk σ t = some (.d (.im (.bool b)))) (hw : b = want) {r : Sv} (hd : dstOk N o.dst = true) (hx : XS c o H σ r) (h : DC2 c N ops base (i + 1) Q (put σ o.dst r) H) : DC2 c N ops base i Q σ H := by
  obtain ⟨m, τ, h1, h2, h3⟩ := h.out
  exact ⟨m, τ, .cons ho hd (.inr ⟨j, want, t, b, hg, by simp [dstAt, hj, hdj], by simpa [dstOk] using htN, hb, .inl ⟨hw, hx⟩⟩) h1, h2, h3⟩
theorem DC2.gno {i j : Nat} {want : Bool} {o oj : Oper} {t : Tmp} {b b' : Bool} {Q : Sg → List (List Dv) → Prop} (ho : ops[i]? = some o) (hg : o.guard = some (j, want)) (hj : ops[j]? = some oj) (hdj : oj.dst = some t) (htN : dstOk N (some t) = true)
    (hb : lk σ t = some (.d (.im (.bool b)))) (hw : b = b') (hne : b' ≠ want) (hd : dstOk N o.dst = true) (h : DC2 c N ops base (i + 1) Q (put σ o.dst (.d (.tu []))) H) : DC2 c N ops base i Q σ H := by
  obtain ⟨m, τ, h1, h2, h3⟩ := h.out
  subst hw
  exact ⟨m, τ, .cons ho hd (.inr ⟨j, want, t, b, hg, by simp [dstAt, hj, hdj], by simpa [dstOk] using htN, hb, .inr ⟨hne, rfl⟩⟩) h1, h2, h3⟩
theorem DC2.al {i d : Nat} {t : TypeId} {ty : TypeId} {pos : String} {after : Array Edge} {zs : List Dv} {Q : Sg → List (List Dv) → Prop} (b : Nat) (ho : ops[i]? = some ⟨some d, .alloc t, ty, pos, after, none⟩) (hd : dstOk N (some d) = true) (hz : zeroD c.P t = some zs) (hb : base + cntA ops i = b) (hH : H[b]? = some zs)
    (h : DC2 c N ops base (i + 1) Q (put σ (some d) (.p b 0)) H) : DC2 c N ops base i Q σ H := by
  obtain ⟨m, τ, h1, h2, h3⟩ := h.out
  subst hb
  exact ⟨m, τ, .al ho rfl rfl rfl (by simpa [dstOk] using hd) hz hH h1, h2, h3⟩
theorem DC2.gnt {i j : Nat} {want : Bool} {o oj : Oper} {t : Tmp} {Q : Sg → List (List Dv) → Prop} (ho : ops[i]? = some o) (hg : o.guard = some (j, want)) (hj : ops[j]? = some oj) (hdj : oj.dst = some t) (htN : dstOk N (some t) = true)
    (hb : lk σ t = some (.d (.tu []))) (hd : dstOk N o.dst = true) (h : DC2 c N ops base (i + 1) Q (put σ o.dst (.d (.tu []))) H) : DC2 c N ops base i Q σ H := by
  obtain ⟨m, τ, h1, h2, h3⟩ := h.out
  exact ⟨m, τ, .gn ho hd hg (by simp [dstAt, hj, hdj]) (by simpa [dstOk] using htN) hb h1, h2, h3⟩
/-- Behind the first part: what is left comes in one order alone. -/
theorem DC2.done {i : Nat} {Q : Sg → List (List Dv) → Prop} (hr : rBelow base σ = true) (hok : okDraw ops i = true) (h : AO c N ops (List.range' i (ops.size - i)) Q σ H) : DC2 c N ops base i Q σ H := by
  have hm := (okDraw_at hok).1
  refine ⟨i, σ, .nil i σ, ?_, hr, fun fuel hf => ⟨fun R hR a w hS => ?_⟩⟩
  · obtain ⟨h1, h2⟩ := okDraw_at hok
    simp only [okDraw2, Bool.and_eq_true, decide_eq_true_eq, List.all_eq_true, List.mem_range]
    refine ⟨h1, fun k hk => ?_⟩
    obtain ⟨o, ho⟩ : ∃ o, ops[k]? = some o := ⟨_, Array.getElem?_eq_getElem hk⟩
    obtain ⟨q1, q2, q3⟩ := h2 k o ho
    rw [ho]
    simp only [Bool.and_eq_true, Array.all_eq_true]
    refine ⟨fun e he => by rw [decide_eq_true (q1 _ (Array.getElem_mem he))]; simp, ?_⟩
    split
    · exact q2 ‹_›
    · rename_i hki
      simp only [List.all_eq_true, List.mem_range]
      exact fun j hj => q3 hki j (by omega)
  · refine tail_any hok fuel i (firstL ops i) a w (Nat.le_refl _) hm (by simp [firstL]) hf (fun j hj => ?_) (h.out R hR a w hS)
    rw [Array.getD_eq_getD_getElem?, Array.getElem?_eq_getElem (by simp [firstL]; exact hj)]
    simp [firstL]
/-- Behind the first part: what is left comes in several orders. -/
theorem DC2.any {i : Nat} {Q : Sg → List (List Dv) → Prop} (hr : rBelow base σ = true) (hok : okDraw2 ops i = true) (h : AY c N ops (ops.size - i) (firstL ops i) Q σ H) : DC2 c N ops base i Q σ H := by
  refine ⟨i, σ, .nil i σ, hok, hr, fun fuel hf => ?_⟩
  have mono : ∀ k L σ' H', AY c N ops k L Q σ' H' → ∀ k', k ≤ k' → AY c N ops k' L Q σ' H' := by
    intro k L σ' H' hk k' hkk
    refine ⟨fun R hR a w hS => ?_⟩
    have h1 := hk.out R hR a w hS
    clear hS hk
    induction k generalizing L a w k' with
    | zero =>
      cases k' with
      | zero => exact h1
      | succ k' => exact ⟨fun _ => h1.2, fun j hj => by rw [h1.1] at hj; cases hj⟩
    | succ k ih =>
      cases k' with
      | zero => omega
      | succ k' => exact ⟨h1.1, fun j hj => wpOp_mono (fun a w h => ih _ _ (by omega) a w h) (h1.2 j hj)⟩
  exact mono _ _ _ _ h fuel hf
theorem AW.drawn2 (Zs : List (List Dv)) {id : Nat} {Q : Ax → Sg → List (List Dv) → Prop} (hmix : c.P.follows .mixedOrders = true) (hb0 : c.b0.length ≤ H.length) (hr : rBelow H.length σ = true)
    (hz : (List.range ops.size).all (fun j => !isAl ops j || decide (cntA ops j < Zs.length)) = true) (h : DC2 c N ops H.length 0 (Q .normal) σ (H ++ Zs)) : AW c N (.region id ops true) Q σ H := by
  obtain ⟨m, τ, h1, h2, h3, h4⟩ := h.out
  refine ⟨fun R k1 _ _ a w ⟨bs, hW, hN, hD, hs⟩ => ?_⟩
  refine wp_region_any hmix ?_
  have hm := (okDraw2_at h2).1
  have hW' : WI c bs H { w with drawn := w.drawn + 1 } := by
    refine ⟨hW.os, hW.tape, hW.output, hW.size, hW.old, hW.told, hW.own, hW.ext, hW.blt, hW.nd, hW.len, hW.erow, fun i g ds h1 h2 => ?_⟩
    obtain ⟨vs, t, k1, k2, k3, k4⟩ := hW.box i g ds h1 h2
    exact ⟨vs, t, k1, k2, k3, fun j d v hj hv => (k4 j d v hj hv).mono (fun _ _ h => h) (fun _ _ _ => rfl)⟩
  have hE : WExt bs w { w with drawn := w.drawn + 1 } := ⟨Nat.le_refl _, fun _ _ _ => rfl, fun _ _ vs _ h => ⟨vs, h, rfl⟩⟩
  obtain ⟨q1, q2⟩ := hW'.name Zs
  have hfil : ((List.range m).filter fun i => !(Array.replicate ops.size false).getD i false) = List.range m := by
    rw [List.filter_eq_self]
    intro i _
    simp [Array.getD_eq_getD_getElem?, Array.getElem?_replicate]
    split <;> rfl
  refine pre_any2 h2 hb0 h1 hr h3 (fun bs' a' w' hW'' hN' hD' hs' fuel hf => (h4 fuel hf).out R k1 a' w' ⟨bs', hW'', hN', hD', hs'⟩) m ops.size _ (bs ++ List.replicate Zs.length none) a _ (by rw [hfil, List.length_range]) (by omega) (by simp) ?_ ?_ q1 hN hD ?_ ?_
  · intro j hj hjs
    simp [Array.getD_eq_getD_getElem?, Array.getElem?_replicate, hjs]
  · intro j hj hal _
    have hz' := List.all_eq_true.1 hz j (List.mem_range.2 (by omega))
    rw [hal] at hz'
    simp at hz'
    rw [List.getElem?_append_right (by rw [← hW.len]; omega), List.getElem?_replicate, if_pos (by rw [← hW.len]; omega)]
  · exact fun t s ht _ => q2 s _ ((hs t s ht).ext hE)
  · intro j t s hj hl
    simp [Array.getD_eq_getD_getElem?, Array.getElem?_replicate] at hl
    split at hl <;> simp at hl
end
end Go.Proofs.Ytgafdhpagifpcaa.Av
