/-
  OWN WORK. The calculus: a region whose order is drawn, in which new blocks are made, and whose last operations come in any order.
-/
import Derived.Test.YtgafdhpagifpcaaAvL
namespace Go.Proofs.Ytgafdhpagifpcaa.Av
open Go Go.RowKit
set_option linter.unusedVariables false
set_option linter.unusedSimpArgs false

/-- Every row of the call's own lies below the box k, or is not empty. -/
def rBelow (k : Nat) : Sg → Bool
  | [] => true
  | .put _ (.r b n _) :: l => (decide (b < k) || decide (0 < n)) && rBelow k l
  | _ :: l => rBelow k l
theorem rBelow_lk {k : Nat} : ∀ {σ : Sg}, rBelow k σ = true → ∀ t b n sz, lk σ t = some (.r b n sz) → b < k ∨ 0 < n
  | [], _, t, b, n, sz, ht => by simp [lk] at ht
  | .put q s :: l, h, t, b, n, sz, ht => by
    have hl : rBelow k l = true := by cases s <;> simp_all [rBelow]
    simp only [lk] at ht
    split at ht
    · cases ht
      simp [rBelow] at h
      exact h.1
    · exact rBelow_lk hl t b n sz ht
  | .only L :: l, h, t, b, n, sz, ht => by
    simp only [lk] at ht
    split at ht
    · exact rBelow_lk (by simpa [rBelow] using h) t b n sz ht
    · cases ht
  | .kill q :: l, h, t, b, n, sz, ht => by
    simp only [lk] at ht
    split at ht
    · rename_i s hs
      cases s <;> simp only [killS, Option.some.injEq, reduceCtorEq] at ht
      · split at ht <;> cases ht
      · split at ht
        · cases ht
        · cases ht; exact rBelow_lk (by simpa [rBelow] using h) t _ _ _ hs
    · cases ht
  | .trim q :: l, h, t, b, n, sz, ht => by
    simp only [lk] at ht
    split at ht
    · rename_i s hs
      cases s <;> simp only [trimS, Option.some.injEq, reduceCtorEq] at ht
      · split at ht <;> cases ht
      · split at ht
        · cases ht; exact rBelow_lk (by simpa [rBelow] using h) t _ _ _ hs
        · cases ht
    · cases ht

/-- Which operation fills which box that was named ahead. -/
def bxAt : List (Nat × Nat) → Nat → Option Nat
  | [], _ => none
  | (i, b) :: l, j => if j = i then some b else bxAt l j
def okBx (lo hi : Nat) : List (Nat × Nat) → Bool
  | [] => true
  | (_, b) :: l => decide (lo ≤ b) && decide (b < hi) && (l.all fun p => p.2 != b) && okBx lo hi l
theorem bxAt_mem : ∀ {l : List (Nat × Nat)} {j b : Nat}, bxAt l j = some b → ∃ i, (i, b) ∈ l
  | (i, b') :: l, j, b, h => by
    simp only [bxAt] at h
    split at h
    · cases h; exact ⟨i, List.mem_cons_self⟩
    · obtain ⟨k, hk⟩ := bxAt_mem h; exact ⟨k, List.mem_cons_of_mem _ hk⟩
theorem okBx_in {lo hi : Nat} : ∀ {l : List (Nat × Nat)}, okBx lo hi l = true → ∀ {j b}, bxAt l j = some b → lo ≤ b ∧ b < hi
  | (i, b') :: l, h, j, b, hj => by
    simp only [okBx, Bool.and_eq_true, decide_eq_true_eq] at h
    simp only [bxAt] at hj
    split at hj
    · cases hj; exact ⟨h.1.1.1, h.1.1.2⟩
    · exact okBx_in h.2 hj
theorem okBx_inj {lo hi : Nat} : ∀ {l : List (Nat × Nat)}, okBx lo hi l = true → ∀ {i j b}, bxAt l i = some b → bxAt l j = some b → i = j
  | (k, b') :: l, h, i, j, b, hi', hj => by
    simp only [okBx, Bool.and_eq_true, List.all_eq_true, bne_iff_ne] at h
    simp only [bxAt] at hi' hj
    split at hi' <;> split at hj
    · omega
    · cases hi'; obtain ⟨q, hq⟩ := bxAt_mem hj; exact absurd rfl (h.1.2 _ hq)
    · cases hj; obtain ⟨q, hq⟩ := bxAt_mem hi'; exact absurd rfl (h.1.2 _ hq)
    · exact okBx_inj h.2 hi' hj

/-! ### Functions that answer a row of their own -/
/-- Called with what reads as ds, whatever the memory: it returns a slice of n elements of sz cells at the beginning of a new block that holds cells; what there was is as it was. -/
structure AR (P : Program) (f : FuncId) (ds : List Dv) (n sz : Nat) (cells : List Dv) : Prop where
  out : ∀ (T : Nat → Prop) (w : World) (vs : List Value), (∀ g, T g → g < w.heap.size) → Reps T w ds vs →
    Calls P f vs.toArray w fun e w' => ∃ g cp cs t, e = .returned (.slice (some ⟨g, 0, none⟩) n cp) ∧ w.heap.size ≤ g ∧ w'.heap[g]? = some (.cells cs t (0, 0)) ∧ n ≤ cp ∧ cp * sz ≤ cs.size ∧
      cells.length ≤ cs.size ∧ (∀ d ∈ cells, leaf d = true) ∧ (∀ (j : Nat) (d : Dv) (v : Value), cells[j]? = some d → cs[j]? = some v → Rep (TT T [some g]) w' d v) ∧ Below w.heap.size w w'

/-- What must hold where the function's text ends. -/
def endR (rs : List ResultVar) (n sz : Nat) (cells : List Dv) : Ax → Sg → List (List Dv) → Prop
  | .exit _, _, _ => False
  | .normal, σ, H => ∃ t b, rs = [.tmp t] ∧ lk σ t = some (.r b n sz) ∧ H[b]? = some cells
  | .ret, σ, H => ∃ t b, rs = [.tmp t] ∧ lk σ t = some (.r b n sz) ∧ H[b]? = some cells
theorem AR.intro {P : Program} {f : FuncId} {fn : Func} {code : Code} {N : Nat} {rs : Array ResultVar} {ds : List Dv} {n sz : Nat} {cells : List Dv} (hf : P.funcs[f]? = some fn) (hn : fn.ntmps = N) (hr : fn.results = rs) (hb : fn.body = some code) (hl : ds.length ≤ N) (hpos : 0 < n)
    (h : ∀ w0 T, AW ⟨P, w0, T, []⟩ N code (endR rs.toList n sz cells) (parms 0 (ds.map .d)) []) : AR P f ds n sz cells := by
  refine ⟨fun T w vs hT hvs => ?_⟩
  refine calls_of_wp hf hb ?_
  have hW : WI ⟨P, w, T, []⟩ [] [] w := ⟨rfl, rfl, rfl, Nat.le_refl _, fun _ _ _ => rfl, hT, fun i g h => by simp at h, fun i g h => by simp at h, fun g h => by simp at h,
    fun i j g h => by simp at h, rfl, fun g h => by simp at h, fun i g ds h => by simp at h⟩
  have hfin : ∀ σ' H' a' w', (∃ t b, rs.toList = [.tmp t] ∧ lk σ' t = some (.r b n sz) ∧ H'[b]? = some cells) → St ⟨P, w, T, []⟩ N σ' H' a' w' →
      a'.defers = [] ∧ ∃ v, (results fn a'.tmps).run P w' = .ok v w' ∧ ∃ g cp cs t, Ending.returned v = .returned (.slice (some ⟨g, 0, none⟩) n cp) ∧ w.heap.size ≤ g ∧ w'.heap[g]? = some (.cells cs t (0, 0)) ∧ n ≤ cp ∧ cp * sz ≤ cs.size ∧
      cells.length ≤ cs.size ∧ (∀ d ∈ cells, leaf d = true) ∧ (∀ (j : Nat) (d : Dv) (v : Value), cells[j]? = some d → cs[j]? = some v → Rep (TT T [some g]) w' d v) ∧ Below w.heap.size w w' := by
    rintro σ' H' a' w' ⟨t, b, hrs, hlk, hH⟩ ⟨bs, hW', hN, hD, hs⟩
    have hres : (results fn a'.tmps).run P w' = .ok (a'.tmps.getD t undef) w' := by
      have hrun : ((#[.tmp t] : Array ResultVar).mapM (resRun a'.tmps)).run P w' = .ok #[a'.tmps.getD t undef] w' := by
        rw [Array.mapM_eq_mapM_toList, Sem.run_map]
        rfl
      rw [results_eq, hr, show rs = #[.tmp t] from Array.ext' (by simpa using hrs), Sem.run_bind, hrun]
      simp only [Result.andThen_ok, Sem.run_pure]
      rfl
    refine ⟨hD, _, hres, ?_⟩
    rcases hs t _ hlk with ⟨h0, _, _⟩ | ⟨g, cp, cs, ty, hbg, hv, hncp, hg, hsz⟩
    · omega
    · obtain ⟨vs', t', k1, k2, k3, k4⟩ := hW'.box b g cells hbg hH
      rw [hg] at k1
      cases k1
      have hge : w.heap.size ≤ g := by
        rcases hW'.own b g hbg with h | ⟨_, h⟩
        · simp at h
        · exact h
      refine ⟨g, cp, cs, ty, by rw [hv], hge, hg, hncp, hsz, k2, k3, fun j d v hj hv => (k4 j d v hj hv).mono (fun g' _ hT' => ?_) (fun _ _ _ => rfl), ⟨hW'.os, hW'.tape, hW'.output, hW'.size, fun g' hg' => hW'.old g' hg' (by simp)⟩⟩
      rcases hT' with h | h
      · exact .inl h
      · simp at h; subst h; exact .inr (List.mem_of_getElem? hbg)
  refine (h w T).out _ ?_ ?_ ?_ _ w ⟨[], hW, ?_, rfl, ?_⟩
  · exact fun σ' H' a' w' hq hS => hfin σ' H' a' w' hq hS
  · exact fun i σ' H' a' w' hq hS => hq.elim
  · exact fun σ' H' a' w' hq hS => hfin σ' H' a' w' hq hS
  · have := hvs.1
    simp [hn]
    omega
  · intro t s ht
    obtain ⟨_, hs⟩ := parms_lk _ _ _ _ ht
    simp only [Nat.sub_zero, List.getElem?_map, Option.map_eq_some_iff] at hs
    obtain ⟨d, hd, rfl⟩ := hs
    have hlt : t < vs.length := by have := (List.getElem?_eq_some_iff.1 hd).1; have := hvs.1; omega
    have hv : vs[t]? = some vs[t] := List.getElem?_eq_getElem hlt
    rw [tmps_at vs _ t _ hv]
    exact (hvs.2 t d _ hd hv).mono (fun _ _ h => h.resolve_right (by simp)) (fun _ _ _ => rfl)
/-- A row that is answered, as a slice that is only read. -/
theorem AR.toAC {P : Program} {f : FuncId} {ds : List Dv} {k : IntKind} {ns : List Nat} {n : Nat} (h : AR P f ds n 1 (nkD k ns)) (hn : n = ns.length) : AC P f ds (fun d => d = limbsD k ns) := by
  refine ⟨fun T w vs hT hr => (h.out T w vs hT hr).mono ?_⟩
  rintro e w' ⟨g, cp, cs, t, rfl, hg, hh, hncp, hsz, hl, hlf, hrep, hB⟩
  refine ⟨_, _, rfl, rfl, ?_, hB⟩
  subst hn
  rcases Nat.eq_zero_or_pos ns.length with h0 | h0
  · obtain rfl := List.eq_nil_of_length_eq_zero h0
    exact .sl0
  · have hlen : (ns.map fun (d : Nat) => [Dv.im (.int k (d : Int))]).length = ns.length := by simp
    have hcl : (nkD k ns).length = ns.length := by simp [nkD]
    have key := Rep.sl1 (T := T) (w := w') (xs := ns.map fun (d : Nat) => [Dv.im (.int k (d : Int))]) (g := g) (off := 0) (c := cp) (sz := 1) (cells := cs) (e := t) (fr := (0, 0)) (u := fun i j => cs.getD i undef)
      (by omega) (by omega) hh (fun hT' => by have := hT g hT'; omega) (by simp) (fun x hx d hd => by
        obtain ⟨a, _, rfl⟩ := List.mem_map.1 hx
        rw [List.mem_singleton.1 hd]; rfl) (fun i j hi hj => by
        have hi' : i < cs.size := by omega
        rw [show 0 + i * 1 + j = i by omega, Array.getD_eq_getD_getElem?, Array.getElem?_eq_getElem hi']; rfl) (fun i x j d hx hd => by
        have hi : i < ns.length := by have := (List.getElem?_eq_some_iff.1 hx).1; omega
        simp only [List.getElem?_map, Option.map_eq_some_iff] at hx
        obtain ⟨a, ha, rfl⟩ := hx
        have hj : j = 0 := by have := (List.getElem?_eq_some_iff.1 hd).1; simpa using this
        subst hj
        simp only [List.getElem?_cons_zero, Option.some.injEq] at hd
        subst hd
        have hi' : i < cs.size := by omega
        refine (hrep i _ (cs.getD i undef) (by simp [nkD, ha]) (by rw [Array.getD_eq_getD_getElem?, Array.getElem?_eq_getElem hi']; rfl)).mono (fun _ _ h => .inl h) (fun _ _ _ => rfl))
    rw [hlen] at key
    exact key

/-- What an operation of the first part may read and write. -/
def okPreD (ops : Array Oper) (m i : Nat) (o : Oper) : Bool :=
  (match o.guard with
    | some (j, _) => decide (j < i) && edgeTo o j
    | none => true) && (List.range m).all fun j =>
    match dstAt ops j with
    | some t => (!(o.op.operands.any (isTmp t) || gSlot ops o == some t) || (decide (j < i) && edgeTo o j)) && (j == i || o.dst != some t)
    | none => true
theorem okPreD_at {ops : Array Oper} {m i : Nat} {o : Oper} (h : okPreD ops m i o = true) : (∀ j want, o.guard = some (j, want) → j < i ∧ edgeTo o j = true) ∧ ∀ j t, j < m → dstAt ops j = some t →
    (Operand.tmp t ∈ o.op.operands.toList ∨ gSlot ops o = some t → j < i ∧ edgeTo o j = true) ∧ (o.dst = some t → m ≤ j ∨ j = i) := by
  simp only [okPreD, Bool.and_eq_true, List.all_eq_true, List.mem_range] at h
  refine ⟨fun j want hg => by have := h.1; rw [hg] at this; simpa using this, fun j t hj hd => ?_⟩
  have := h.2 j hj
  rw [hd] at this
  simp only [Bool.and_eq_true, Bool.or_eq_true, decide_eq_true_eq, beq_iff_eq, Bool.not_eq_true'] at this
  refine ⟨fun ht => ?_, fun ht => ?_⟩
  · have hany : (o.op.operands.any (isTmp t) || gSlot ops o == some t) = true := by
      rcases ht with ht | ht
      · rw [Bool.or_eq_true]
        left
        rw [Array.any_eq_true]
        obtain ⟨q, hq, he⟩ := List.mem_iff_getElem.1 ht
        refine ⟨q, by simpa using hq, ?_⟩
        have : o.op.operands[q]'(by simpa using hq) = .tmp t := by simpa using he
        rw [this]; simp [isTmp]
      · rw [ht]; simp
    rcases this.1 with h | h
    · rw [hany] at h; cases h
    · exact h
  · rcases this.2 with h | h
    · exact .inr h
    · rw [ht] at h; simp at h
theorem okPreD_of {ops : Array Oper} {m i : Nat} {o : Oper} (hm : m ≤ ops.size) (hi : i < m) (h : okPre ops m i o = true) : okPreD ops m i o = true := by
  simp only [okPre, okPreD, Bool.and_eq_true, List.all_eq_true, List.mem_range] at h ⊢
  refine ⟨h.1, fun j hj => ?_⟩
  have := h.2 j (by omega)
  cases hd : dstAt ops j with
  | none => rfl
  | some t =>
    rw [hd] at this
    simp only [Bool.and_eq_true, Bool.or_eq_true, decide_eq_true_eq] at this ⊢
    refine ⟨this.1, ?_⟩
    rcases this.2 with (h | h) | h
    · omega
    · exact .inl h
    · exact .inr h
/-- o waits for j, at once or by way of others. -/
def reachTo (ops : Array Oper) : Nat → Oper → Nat → Bool
  | 0, o, j => edgeTo o j
  | d + 1, o, j => edgeTo o j || o.after.any fun e => Region.binds .any e && (match ops[e.on]? with
    | some o' => reachTo ops d o' j
    | none => false)
theorem reach_of {ops : Array Oper} {d : Nat} {o : Oper} {j : Nat} (h : edgeTo o j = true) : reachTo ops d o j = true := by
  cases d <;> simp [reachTo, h]
def Closed (ops : Array Oper) (L : Array Bool) : Prop := ∀ k o, L.getD k false = true → ops[k]? = some o → (o.after.all fun e => !Region.binds .any e || L.getD e.on false) = true
theorem getD_set {L : Array Bool} {i j : Nat} (h : L.getD j false = true) : (L.setIfInBounds i true).getD j false = true := by
  rw [Array.getD_eq_getD_getElem?] at h ⊢
  rw [Array.getElem?_setIfInBounds]
  split
  · split
    · rfl
    · rename_i h1 h2
      subst h1
      rw [Array.getElem?_eq_none (by omega)] at h
      cases h
  · exact h
theorem all_set {L : Array Bool} {i : Nat} {o : Oper} (h : (o.after.all fun e => !Region.binds .any e || L.getD e.on false) = true) : (o.after.all fun e => !Region.binds .any e || (L.setIfInBounds i true).getD e.on false) = true := by
  rw [Array.all_eq_true] at h ⊢
  intro q hq
  have := h q hq
  rw [Bool.or_eq_true] at this ⊢
  exact this.imp id getD_set
theorem Closed.set {ops : Array Oper} {L : Array Bool} {i : Nat} {o : Oper} (hL : Closed ops L) (ho : ops[i]? = some o) (h : (o.after.all fun e => !Region.binds .any e || L.getD e.on false) = true) : Closed ops (L.setIfInBounds i true) := by
  intro k o' hk ho'
  by_cases hki : i = k
  · subst hki
    rw [ho] at ho'; cases ho'
    exact all_set h
  · refine all_set (hL k o' ?_ ho')
    rw [Array.getD_eq_getD_getElem?] at hk ⊢
    rw [Array.getElem?_setIfInBounds, if_neg hki] at hk
    exact hk
theorem reach_listed {ops : Array Oper} {L : Array Bool} (hL : Closed ops L) : ∀ {d : Nat} {o : Oper} {j : Nat}, reachTo ops d o j = true → (o.after.all fun e => !Region.binds .any e || L.getD e.on false) = true → L.getD j false = true
  | 0, o, j, h, hr => edge_listed h hr
  | d + 1, o, j, h, hr => by
    rw [reachTo, Bool.or_eq_true] at h
    rcases h with h | h
    · exact edge_listed h hr
    · rw [Array.any_eq_true] at h
      obtain ⟨q, hq, h2⟩ := h
      rw [Bool.and_eq_true] at h2
      obtain ⟨hb, h3⟩ := h2
      rw [Array.all_eq_true] at hr
      have h4 := hr q hq
      rw [hb] at h4
      have h5 : L.getD (o.after[q]).on false = true := by simpa using h4
      split at h3
      · rename_i o' ho'
        exact reach_listed hL h3 (hL _ _ h5 ho')
      · cases h3
def okDraw2 (ops : Array Oper) (m : Nat) (late : Option Nat) : Bool :=
  decide (m ≤ ops.size) && (List.range ops.size).all fun i =>
    match ops[i]? with
    | none => false
    | some o => (o.after.all fun e => !Region.binds .any e || decide (e.on < i)) && (if i < m then okPreD ops m i o else (List.range m).all fun j => (late == some j) || reachTo ops 3 o j)
theorem okDraw2_at {ops : Array Oper} {m : Nat} {late : Option Nat} (h : okDraw2 ops m late = true) : m ≤ ops.size ∧ ∀ i o, ops[i]? = some o →
    (∀ e ∈ o.after, Region.binds .any e = true → e.on < i) ∧ (i < m → okPreD ops m i o = true) ∧ (¬ i < m → ∀ j, j < m → late ≠ some j → reachTo ops 3 o j = true) := by
  simp only [okDraw2, Bool.and_eq_true, decide_eq_true_eq, List.all_eq_true, List.mem_range] at h
  refine ⟨h.1, fun i o ho => ?_⟩
  have hi : i < ops.size := (Array.getElem?_eq_some_iff.1 ho).1
  have := h.2 i hi
  rw [ho] at this
  simp only [Bool.and_eq_true, Array.all_eq_true] at this
  obtain ⟨h1, h2⟩ := this
  refine ⟨fun e he hb => ?_, fun hm => by rw [if_pos hm] at h2; exact h2, fun hm j hj hlj => ?_⟩
  · obtain ⟨k, hk, rfl⟩ := Array.mem_iff_getElem.1 he
    have := h1 k hk
    rw [hb] at this
    simpa using this
  · rw [if_neg hm] at h2
    simp only [List.all_eq_true, List.mem_range] at h2
    have := h2 j hj
    rw [Bool.or_eq_true] at this
    rcases this with h | h
    · exact absurd (eq_of_beq h) hlj
    · exact h

section
variable {c : Cx} {N : Nat} {ops : Array Oper} {σ τ : Sg} {H : List (List Dv)}

/-- One operation alone, whatever comes behind it. -/
theorem wpOp_of_AO {i : Nat} {Q : Sg → List (List Dv) → Prop} (h : AO c N ops [i] Q σ H) {R : Exit → Act → World → Prop} {K : Act → World → Prop}
    (hK : ∀ σ' H' a' w', Q σ' H' → St c N σ' H' a' w' → K a' w') {a : Act} {w : World} (hS : St c N σ H a w) : wpOp c.P ops R i K a w := by
  have h1 := h.out (fun e a w => match e with
    | .normal => K a w
    | _ => False) hK a w hS
  rw [wpOps_cons] at h1
  have hn : wpOps c.P ops (fun e a w => match e with
    | .normal => K a w
    | _ => False) [] = K := by
    funext a w; rfl
  rw [hn] at h1
  unfold wpOp at h1 ⊢
  split at h1
  · exact h1
  · rename_i o ho
    split at h1
    · rename_i hw
      rw [if_pos hw]
      rcases h1 with h1 | ⟨_, a', w', h2⟩
      · left
        unfold Oper.wp at h1 ⊢
        generalize (execOp a.eval o).run c.P w = r at h1
        unfold Oper.upon at h1 ⊢
        split at h1
        · exact h1
        · exact h1
        · exact h1
        · refine Calls.mono h1 ?_
          intro e w' he
          cases e with
          | returned v => exact he
          | panicked ch => exact he.elim
          | outgrown => obtain ⟨a', w'', h2⟩ := he; exact h2.elim
        · exact h1
        · exact h1.elim
        · exact h1.elim
      · exact h2.elim
    · rename_i hw
      rw [if_neg hw]; exact h1

/-- What is left of a region, in any order. -/
structure AY (c : Cx) (N : Nat) (ops : Array Oper) (fuel : Nat) (L : Array Bool) (Q : Sg → List (List Dv) → Prop) (σ : Sg) (H : List (List Dv)) : Prop where
  out : ∀ (R : Exit → Act → World → Prop), (∀ σ' H' a' w', Q σ' H' → St c N σ' H' a' w' → R .normal a' w') → ∀ a w, St c N σ H a w → wpAny c.P .any ops R fuel L a w

theorem AY.nil {fuel : Nat} {L : Array Bool} {Q : Sg → List (List Dv) → Prop} (hr : Region.ready .any ops L = []) (h : Q σ H) : AY c N ops fuel L Q σ H := by
  refine ⟨fun R hR a w hS => ?_⟩
  cases fuel with
  | zero => exact ⟨hr, hR σ H a w h hS⟩
  | succ fuel => exact ⟨fun _ => hR σ H a w h hS, fun i hi => by rw [hr] at hi; cases hi⟩
theorem AY.one {fuel : Nat} {L : Array Bool} {Q : Sg → List (List Dv) → Prop} (i : Nat) (hr : Region.ready .any ops L = [i]) (h : AO c N ops [i] (fun σ' H' => AY c N ops fuel (L.setIfInBounds i true) Q σ' H') σ H) : AY c N ops (fuel + 1) L Q σ H := by
  refine ⟨fun R hR a w hS => ⟨fun he => (by rw [hr] at he; cases he), fun k hk => ?_⟩⟩
  rw [hr] at hk
  obtain rfl := List.mem_singleton.1 hk
  exact wpOp_of_AO h (fun σ' H' a' w' hq hS' => hq.out R hR a' w' hS') hS
theorem AY.two {fuel : Nat} {L : Array Bool} {Q : Sg → List (List Dv) → Prop} (i j : Nat) (hr : Region.ready .any ops L = [i, j]) (h1 : AO c N ops [i] (fun σ' H' => AY c N ops fuel (L.setIfInBounds i true) Q σ' H') σ H)
    (h2 : AO c N ops [j] (fun σ' H' => AY c N ops fuel (L.setIfInBounds j true) Q σ' H') σ H) : AY c N ops (fuel + 1) L Q σ H := by
  refine ⟨fun R hR a w hS => ⟨fun he => (by rw [hr] at he; cases he), fun k hk => ?_⟩⟩
  rw [hr] at hk
  rcases List.mem_cons.1 hk with rfl | hk
  · exact wpOp_of_AO h1 (fun σ' H' a' w' hq hS' => hq.out R hR a' w' hS') hS
  · obtain rfl := List.mem_singleton.1 hk
    exact wpOp_of_AO h2 (fun σ' H' a' w' hq hS' => hq.out R hR a' w' hS') hS

/-- A new block, whose box was named ahead. -/
inductive DR2 (c : Cx) (N : Nat) (ops : Array Oper) (bx : List (Nat × Nat)) (H : List (List Dv)) : Nat → Sg → Nat → Sg → Prop
  | nil (i : Nat) (σ : Sg) : DR2 c N ops bx H i σ i σ
  | cons {i m : Nat} {σ τ : Sg} {o : Oper} {r : Sv} : ops[i]? = some o → dstOk N o.dst = true → GS c N ops o H σ r → DR2 c N ops bx H (i + 1) (put σ o.dst r) m τ → DR2 c N ops bx H i σ m τ
  | al {i m : Nat} {σ τ : Sg} {o : Oper} {d t b : Nat} {zs : List Dv} : ops[i]? = some o → o.op = .alloc t → o.guard = none → o.dst = some d → d < N → zeroD c.P t = some zs → bxAt bx i = some b ∧ H[b]? = some zs →
      DR2 c N ops bx H (i + 1) (put σ (some d) (.p b 0)) m τ → DR2 c N ops bx H i σ m τ
  | cr {i m : Nat} {σ τ : Sg} {o : Oper} {d b n sz : Nat} {x : Operand} {args : Array Operand} {ats : Array TypeId} {f : FuncId} {fa fb ds cells : List Dv} : ops[i]? = some o → o.op = .call ⟨.value x, args, ats⟩ → o.guard = none → o.dst = some d → d < N →
      evS σ x = some (.d (.fn (.func f) fa fb)) ∧ enterB c.P f = true ∧ argD σ args.toList = some ds ∧ AR c.P f (fa ++ ds ++ fb) n sz cells → bxAt bx i = some b ∧ H[b]? = some cells →
      DR2 c N ops bx H (i + 1) (put σ (some d) (.r b n sz)) m τ → DR2 c N ops bx H i σ m τ
  | gn {i m j t : Nat} {want : Bool} {σ τ : Sg} {o : Oper} : ops[i]? = some o → dstOk N o.dst = true → o.guard = some (j, want) → dstAt ops j = some t → t < N → lk σ t = some (.d (.tu [])) →
      DR2 c N ops bx H (i + 1) (put σ o.dst (.d (.tu []))) m τ → DR2 c N ops bx H i σ m τ

variable {base : Nat} {bx : List (Nat × Nat)}
theorem DR2.le {i m : Nat} (h : DR2 c N ops bx H i σ m τ) : i ≤ m := by
  induction h with
  | nil => exact Nat.le_refl _
  | cons _ _ _ _ ih => omega
  | al _ _ _ _ _ _ _ _ ih => omega
  | cr _ _ _ _ _ _ _ _ ih => omega
  | gn _ _ _ _ _ _ _ ih => omega
theorem DR2.lk {i m : Nat} (h : DR2 c N ops bx H i σ m τ) : ∀ t, (∀ j, i ≤ j → j < m → dstAt ops j ≠ some t) → lk τ t = lk σ t := by
  induction h with
  | nil => exact fun _ _ => rfl
  | cons ho hd hx hr ih =>
    intro t ht
    rw [ih t (fun j hj hm => ht j (by omega) hm)]
    refine lk_put_ne ?_
    have := ht _ (Nat.le_refl _) (by have := hr.le; omega)
    simpa [dstAt, ho] using this
  | al ho h1 h2 h3 h4 h5 h6 hr ih =>
    intro t ht
    rw [ih t (fun j hj hm => ht j (by omega) hm)]
    refine lk_put_ne ?_
    have := ht _ (Nat.le_refl _) (by have := hr.le; omega)
    rw [← h3]
    simpa [dstAt, ho] using this
  | cr ho h1 h2 h3 h4 h5 h6 hr ih =>
    intro t ht
    rw [ih t (fun j hj hm => ht j (by omega) hm)]
    refine lk_put_ne ?_
    have := ht _ (Nat.le_refl _) (by have := hr.le; omega)
    rw [← h3]
    simpa [dstAt, ho] using this
  | gn ho hd _ _ _ _ hr ih =>
    intro t ht
    rw [ih t (fun j hj hm => ht j (by omega) hm)]
    refine lk_put_ne ?_
    have := ht _ (Nat.le_refl _) (by have := hr.le; omega)
    simpa [dstAt, ho] using this
/-- What an operation of the first part does. -/
def Step2 (c : Cx) (N : Nat) (ops : Array Oper) (bx : List (Nat × Nat)) (H : List (List Dv)) (j : Nat) (o : Oper) (r : Sv) (σj : Sg) : Prop :=
  GS c N ops o H σj r ∨ (∃ t zs b, o.op = .alloc t ∧ o.guard = none ∧ zeroD c.P t = some zs ∧ bxAt bx j = some b ∧ H[b]? = some zs ∧ r = .p b 0) ∨
    (∃ x args ats f fa fb ds n sz cells b, o.op = .call ⟨.value x, args, ats⟩ ∧ o.guard = none ∧ evS σj x = some (.d (.fn (.func f) fa fb)) ∧ enterB c.P f = true ∧ argD σj args.toList = some ds ∧ AR c.P f (fa ++ ds ++ fb) n sz cells ∧ bxAt bx j = some b ∧ H[b]? = some cells ∧ r = .r b n sz) ∨
    ∃ j' want t, o.guard = some (j', want) ∧ dstAt ops j' = some t ∧ t < N ∧ lk σj t = some (.d (.tu [])) ∧ r = .d (.tu [])
theorem DR2.get {i m : Nat} (h : DR2 c N ops bx H i σ m τ) : ∀ j, i ≤ j → j < m → ∃ o r σj, ops[j]? = some o ∧ dstOk N o.dst = true ∧ Step2 c N ops bx H j o r σj ∧
    (∀ t, (∀ k, j ≤ k → k < m → dstAt ops k ≠ some t) → Av.lk τ t = Av.lk σj t) ∧ (∀ t, o.dst = some t → (∀ k, j < k → k < m → dstAt ops k ≠ some t) → Av.lk τ t = some r) := by
  induction h with
  | nil => intro j h1 h2; omega
  | @cons i m σ τ o r ho hd hx hr ih =>
    intro j h1 h2
    rcases Nat.eq_or_lt_of_le h1 with he | hlt
    · subst he
      refine ⟨o, r, σ, ho, hd, .inl hx, fun t ht => DR2.lk (.cons ho hd hx hr) t ht, fun t hdt ht => ?_⟩
      rw [hr.lk t (fun k hk hm => ht k (by omega) hm), hdt]
      exact lk_put_eq
    · exact ih j hlt h2
  | @al i m σ τ o d t b zs ho q1 q2 q3 q4 q5 q6 hr ih =>
    intro j h1 h2
    rcases Nat.eq_or_lt_of_le h1 with he | hlt
    · subst he
      refine ⟨o, _, σ, ho, by rw [q3]; simpa [dstOk] using q4, .inr (.inl ⟨t, zs, _, q1, q2, q5, q6.1, q6.2, rfl⟩), fun t' ht => DR2.lk (.al ho q1 q2 q3 q4 q5 q6 hr) t' ht, fun t' hdt ht => ?_⟩
      rw [hr.lk t' (fun k hk hm => ht k (by omega) hm)]
      rw [q3] at hdt; cases hdt
      exact lk_put_eq
    · exact ih j hlt h2
  | @cr i m σ τ o d b n sz x args ats f fa fb ds cells ho q1 q2 q3 q4 q5 q6 hr ih =>
    intro j h1 h2
    rcases Nat.eq_or_lt_of_le h1 with he | hlt
    · subst he
      refine ⟨o, _, σ, ho, by rw [q3]; simpa [dstOk] using q4, .inr (.inr (.inl ⟨x, args, ats, f, fa, fb, ds, n, sz, cells, b, q1, q2, q5.1, q5.2.1, q5.2.2.1, q5.2.2.2, q6.1, q6.2, rfl⟩)), fun t' ht => DR2.lk (.cr ho q1 q2 q3 q4 q5 q6 hr) t' ht, fun t' hdt ht => ?_⟩
      rw [hr.lk t' (fun k hk hm => ht k (by omega) hm)]
      rw [q3] at hdt; cases hdt
      exact lk_put_eq
    · exact ih j hlt h2
  | @gn i m j' t want σ τ o ho hd q1 q2 q3 q4 hr ih =>
    intro j h1 h2
    rcases Nat.eq_or_lt_of_le h1 with he | hlt
    · subst he
      refine ⟨o, _, σ, ho, hd, .inr (.inr (.inr ⟨j', want, t, q1, q2, q3, q4, rfl⟩)), fun t' ht => DR2.lk (.gn ho hd q1 q2 q3 q4 hr) t' ht, fun t' hdt ht => ?_⟩
      rw [hr.lk t' (fun k hk hm => ht k (by omega) hm), hdt]
      exact lk_put_eq
    · exact ih j hlt h2

/-- A box that was named ahead gets its block. -/
theorem WI.fillB {bs : List (Option Nat)} {w w' : World} (hW : WI c bs H w) (hBe : Below w.heap.size w w') {b g : Nat} (hb : bs[b]? = some none) (hb0 : c.b0.length ≤ b) (hg0 : w.heap.size ≤ g) {cells : Array Value} {t : TypeId} {ds : List Dv} (hg : w'.heap[g]? = some (.cells cells t (0, 0)))
    (hH : H[b]? = some ds) (hl : ds.length ≤ cells.size) (hlf : ∀ x ∈ ds, leaf x = true)
    (hr : ∀ (i : Nat) (d : Dv) (u : Value), ds[i]? = some d → cells[i]? = some u → Rep (TT (TT c.T bs) [some g]) w' d u) :
    WI c (bs.set b (some g)) H w' ∧ (∀ s v, (∀ b' n sz, s = .r b' n sz → b' ≠ b ∨ 0 < n) → SRep c.T bs w s v → SRep c.T (bs.set b (some g)) w' s v) := by
  have hblt : b < bs.length := (List.getElem?_eq_some_iff.1 hb).1
  have hgs : g < w'.heap.size := (Array.getElem?_eq_some_iff.1 hg).1
  have hold : ∀ k, k < w.heap.size → w'.heap[k]? = w.heap[k]? := fun k hk => hBe.block k hk
  have hset : ∀ i, (bs.set b (some g))[i]? = if i = b then some (some g) else bs[i]? := fun i => by
    rw [List.getElem?_set]
    by_cases h : b = i
    · subst h; simp [hblt]
    · rw [if_neg h, if_neg (Ne.symm h)]
  have hmem : ∀ k, some k ∈ bs.set b (some g) → some k ∈ bs ∨ k = g := fun k hk => by
    rcases List.mem_or_eq_of_mem_set hk with h | h
    · exact .inl h
    · exact .inr (by cases h; rfl)
  have hrep : ∀ d v, Rep (TT c.T bs) w d v → Rep (TT c.T (bs.set b (some g))) w' d v := fun d v h =>
    h.mono (fun k hk hT => by
      rcases hT with h | h
      · exact .inl h
      · rcases hmem k h with h | h
        · exact .inr h
        · omega) (fun k hk _ => hold k hk)
  refine ⟨⟨hBe.os.trans hW.os, hBe.tape.trans hW.tape, hBe.output.trans hW.output, Nat.le_trans hW.size hBe.size, fun k hk hn => (hold k (Nat.lt_of_lt_of_le hk hW.size)).trans (hW.old k hk hn), hW.told, fun i k h => ?_, fun i k h => ?_, fun k h => ?_, fun i j k h1 h2 => ?_, by simp [hW.len],
    fun k hk vs t' hv => ?_, fun i k ds' h1 h2 => ?_⟩, fun s v hr' hs => ?_⟩
  · rw [hset] at h
    split at h
    · rename_i he
      cases h; subst he
      exact .inr ⟨hb0, Nat.le_trans hW.size hg0⟩
    · exact hW.own i k h
  · rw [hset, if_neg (fun he => by
      have := hW.ext i k h
      rw [he, hb] at this; cases this)]
    exact hW.ext i k h
  · rcases hmem k h with h | h
    · exact Nat.lt_of_lt_of_le (hW.blt k h) hBe.size
    · subst h; exact hgs
  · rw [hset] at h1 h2
    split at h1 <;> split at h2
    · omega
    · cases h1; have := hW.blt _ (List.mem_of_getElem? h2); omega
    · cases h2; have := hW.blt _ (List.mem_of_getElem? h1); omega
    · exact hW.nd i j k h1 h2
  · obtain ⟨vs', h1, h2⟩ := hW.erow k hk vs t' hv
    exact ⟨vs', (hold k (Array.getElem?_eq_some_iff.1 h1).1).trans h1, h2⟩
  · rw [hset] at h1
    split at h1
    · rename_i he
      subst he
      rw [hH] at h2
      cases h1; cases h2
      refine ⟨cells, t, hg, hl, hlf, fun j d v hd hv => (hr j d v hd hv).mono (fun k _ hT => ?_) (fun _ _ _ => rfl)⟩
      rcases hT with h | h
      · exact .inl (.inl h)
      · rcases hmem k h with h | h
        · exact .inl (.inr h)
        · subst h; exact .inr (by simp)
    · obtain ⟨vs, t', k1, k2, k3, k4⟩ := hW.box i k ds' h1 h2
      exact ⟨vs, t', (hold k (Array.getElem?_eq_some_iff.1 k1).1).trans k1, k2, k3, fun j d v hd hv => hrep d v (k4 j d v hd hv)⟩
  · cases s with
    | d x => exact hrep x v hs
    | p b' o =>
      obtain ⟨k, hb', hv⟩ := hs
      exact ⟨k, by rw [hset, if_neg (fun he => by rw [he, hb] at hb'; cases hb')]; exact hb', hv⟩
    | e ds' =>
      obtain ⟨k, off, cs, t', fr, hv, hh, hn, hlf', hr''⟩ := hs
      have hk := (Array.getElem?_eq_some_iff.1 hh).1
      refine ⟨k, off, cs, t', fr, hv, (hold k hk).trans hh, fun hT => ?_, hlf', fun j d hd => ?_⟩
      · rcases hT with h | h
        · exact hn (.inl h)
        · rcases hmem k h with h | h
          · exact hn (.inr h)
          · omega
      · obtain ⟨u, hu, hr3⟩ := hr'' j d hd
        exact ⟨u, hu, hrep d u hr3⟩
    | r b' n sz =>
      rcases hs with ⟨h1, h2, h3⟩ | ⟨k, cp, cs, t', hb', hv, hn, hh, hs'⟩
      · have hne : b' ≠ b := (hr' b' n sz rfl).resolve_right (by omega)
        exact .inl ⟨h1, h2, by rw [hset, if_neg hne]; exact h3⟩
      · have hne : b' ≠ b := fun he => by rw [he, hb] at hb'; cases hb'
        exact .inr ⟨k, cp, cs, t', by rw [hset, if_neg hne]; exact hb', hv, hn, (hold k (Array.getElem?_eq_some_iff.1 hh).1).trans hh, hs'⟩
    | u => trivial

theorem alloc_run {t : TypeId} {zs : List Dv} (hz : zeroD c.P t = some zs) {o : Oper} (hop : o.op = .alloc t) (T : Nat → Prop) (a : Act) (w : World) :
    ∃ cells : Array Value, (execOp a.eval o).run c.P w = .ok (.value (.pointer (some ⟨w.heap.size, 0, none⟩))) { w with heap := w.heap.push (.cells cells t) } ∧ zs.length ≤ cells.size ∧ (∀ x ∈ zs, leaf x = true) ∧
      ∀ (i : Nat) (d : Dv) (u : Value), zs[i]? = some d → cells[i]? = some u → Rep T w d u := by
  unfold zeroD at hz
  cases hi : c.P.info? t with
  | none => rw [hi] at hz; cases hz
  | some q =>
    rw [hi] at hz
    simp only at hz
    cases hzv : q.zero with
    | none => rw [hzv] at hz; cases hz
    | some zv =>
      rw [hzv] at hz
      simp only at hz
      split at hz
      · rename_i hone
        cases hz
        simp only [Array.all_eq_true_iff_forall_mem] at hone
        refine ⟨zv.cells, ?_, by simp, ?_, fun k d u hd hu => ?_⟩
        · simp [execOp, hop, Instr.alloc, zeroValue, typeInfo, hi, hzv, newVar_run]
        · intro x hx
          obtain ⟨u, hu, rfl⟩ := List.mem_map.1 hx
          exact ofV_leaf (hone u (by simpa using hu))
        · simp only [List.getElem?_map, Option.map_eq_some_iff] at hd
          obtain ⟨u', hu', rfl⟩ := hd
          have : zv.cells[k]? = some u' := by simpa using hu'
          rw [this] at hu; cases hu
          exact ofV_rep _ w (hone _ (Array.mem_of_getElem? this))
      · cases hz

/-- The operations listed are the first m. -/
def firstL (ops : Array Oper) (m : Nat) : Array Bool := Array.ofFn (n := ops.size) fun i => decide (i.val < m)
theorem arr_eq {L : Array Bool} {m : Nat} (hs : L.size = ops.size) (hL : ∀ j, j < ops.size → L.getD j false = decide (j < m)) : L = firstL ops m := by
  apply Array.ext
  · simp [firstL, hs]
  · intro i h1 h2
    have := hL i (by omega)
    rw [Array.getD_eq_getD_getElem?, Array.getElem?_eq_getElem h1] at this
    simp [firstL]
    simpa using this

set_option maxHeartbeats 1000000 in
theorem pre_any2 {m : Nat} {late : Option Nat} (hok : okDraw2 ops m late = true) {top : Nat} (hbx : okBx base top bx = true) (hbase : c.b0.length ≤ base) (hdr : DR2 c N ops bx H 0 σ m τ) (hrσ : rBelow base σ = true) (hrτ : rBelow base τ = true) {R : Exit → Act → World → Prop}
    (hend : ∀ bs a w, WI c bs H w → a.tmps.size = N → a.defers = [] → (∀ t s, lk τ t = some s → SRep c.T bs w s (a.tmps.getD t undef)) → ∀ fuel, ops.size - m ≤ fuel → wpAny c.P .any ops R fuel (firstL ops m) a w)
    (hlend : ∀ l, late = some l → ∀ bs a w, WI c bs H w → a.tmps.size = N → a.defers = [] → (∀ t s, lk τ t = some s → dstAt ops l ≠ some t → SRep c.T bs w s (a.tmps.getD t undef)) → ∀ fuel, ops.size - m + 1 ≤ fuel → wpAny c.P .any ops R fuel ((firstL ops m).setIfInBounds l false) a w) :
    ∀ (n fuel : Nat) (L : Array Bool) (bs : List (Option Nat)) (a : Act) (w : World), n = ((List.range m).filter fun i => !L.getD i false).length → n + (ops.size - m) ≤ fuel → L.size = ops.size → Closed ops L →
    (∀ j, m ≤ j → j < ops.size → L.getD j false = false) → (∀ j b, j < m → bxAt bx j = some b → L.getD j false = false → bs[b]? = some none) →
    WI c bs H w → a.tmps.size = N → a.defers = [] → (∀ t s, lk σ t = some s → (∀ j, j < m → L.getD j false = true → dstAt ops j ≠ some t) → SRep c.T bs w s (a.tmps.getD t undef)) →
    (∀ j t s, j < m → L.getD j false = true → dstAt ops j = some t → lk τ t = some s → SRep c.T bs w s (a.tmps.getD t undef)) →
    wpAny c.P .any ops R fuel L a w := by
  obtain ⟨hm, hat⟩ := okDraw2_at hok
  have hne : ∀ i j t, i < m → j < m → dstAt ops i = some t → dstAt ops j = some t → i = j := by
    intro i j t hi hj h1 h2
    obtain ⟨o, ho⟩ : ∃ o, ops[i]? = some o := ⟨_, Array.getElem?_eq_getElem (by omega)⟩
    have hod : o.dst = some t := by simpa [dstAt, ho] using h1
    rcases ((okPreD_at ((hat i o ho).2.1 hi)).2 j t (by omega) h2).2 hod with h | h
    · omega
    · exact h.symm
  intro n
  induction n with
  | zero =>
    intro fuel L bs a w hn hf hs hcl hL hbs hW hN hD h1 h2
    have hall : ∀ j, j < m → L.getD j false = true := by
      intro j hj
      have hnil : ((List.range m).filter fun i => !L.getD i false) = [] := List.eq_nil_of_length_eq_zero hn.symm
      have := List.filter_eq_nil_iff.1 hnil j (List.mem_range.2 hj)
      simpa using this
    have hLm : L = firstL ops m := arr_eq hs (fun j hj => by
      by_cases hjm : j < m
      · rw [hall j hjm]; simp [hjm]
      · rw [hL j (by omega) hj]; simp [hjm])
    rw [hLm]
    refine hend bs a w hW hN hD (fun t s ht => ?_) fuel (by omega)
    by_cases he : ∃ j, j < m ∧ dstAt ops j = some t
    · obtain ⟨j, hj, hdj⟩ := he
      exact h2 j t s hj (hall j hj) hdj ht
    · have hnot : ∀ j, 0 ≤ j → j < m → dstAt ops j ≠ some t := fun j _ hj hd => he ⟨j, hj, hd⟩
      rw [hdr.lk t hnot] at ht
      exact h1 t s ht (fun j hj _ => hnot j (Nat.zero_le _) hj)
  | succ n ih =>
    intro fuel L bs a w hn hf hs hcl hL hbs hW hN hD h1 h2
    obtain ⟨fuel, rfl⟩ : ∃ f, fuel = f + 1 := ⟨fuel - 1, by omega⟩
    have hex : ∃ i, i < m ∧ L.getD i false = false := by
      have hne : ((List.range m).filter fun i => !L.getD i false) ≠ [] := by
        intro he; rw [he] at hn; simp at hn
      obtain ⟨i, hi⟩ := List.exists_mem_of_ne_nil _ hne
      simp at hi
      exact ⟨i, hi.1, by simpa using hi.2⟩
    by_cases hlate : ∃ l, late = some l ∧ l < m ∧ L.getD l false = false ∧ ∀ j, j < m → j ≠ l → L.getD j false = true
    · obtain ⟨l, hl0, hlm, hll, hlo⟩ := hlate
      have hLm : L = (firstL ops m).setIfInBounds l false := by
        have e1 : L.setIfInBounds l true = firstL ops m := arr_eq (by simpa using hs) (fun j hj => by
          rw [Array.getD_eq_getD_getElem?, Array.getElem?_setIfInBounds]
          by_cases hjl : l = j
          · subst hjl; simp [hlm, hs, hj]
          · rw [if_neg hjl, ← Array.getD_eq_getD_getElem?]
            by_cases hjm : j < m
            · rw [hlo j hjm (Ne.symm hjl)]; simp [hjm]
            · rw [hL j (by omega) hj]; simp [hjm])
        rw [← e1]
        apply Array.ext_getElem?
        intro k
        rw [Array.getElem?_setIfInBounds, Array.getElem?_setIfInBounds]
        by_cases hkl : l = k
        · subst hkl
          have hlt : l < L.size := by omega
          have hg : L.getD l false = L[l] := by rw [Array.getD_eq_getD_getElem?, Array.getElem?_eq_getElem hlt]; rfl
          rw [Array.getElem?_eq_getElem hlt, ← hg, hll]
          simp [hlt]
        · simp [hkl]
      rw [hLm]
      refine hlend l hl0 bs a w hW hN hD (fun t s ht hdl => ?_) (fuel + 1) (by omega)
      by_cases he : ∃ j, j < m ∧ dstAt ops j = some t
      · obtain ⟨j, hj, hdj⟩ := he
        exact h2 j t s hj (hlo j hj (fun e => hdl (e ▸ hdj))) hdj ht
      · have hnot : ∀ j, 0 ≤ j → j < m → dstAt ops j ≠ some t := fun j _ hj hd => he ⟨j, hj, hd⟩
        rw [hdr.lk t hnot] at ht
        exact h1 t s ht (fun j hj _ => hnot j (Nat.zero_le _) hj)
    refine ⟨fun he => ?_, fun i hi => ?_⟩
    · exfalso
      obtain ⟨i, ⟨hi, hl⟩, hleast⟩ := exists_least hex
      have : i ∈ Region.ready .any ops L := by
        refine ready_iff.2 ⟨ops[i], Array.getElem?_eq_getElem (by omega), ?_, ?_⟩
        · rw [Array.getD_eq_getD_getElem?] at hl ⊢
          rw [Array.getElem?_eq_getElem (by omega)] at hl ⊢
          simpa using hl
        · rw [Array.all_eq_true]
          intro k hk
          cases hbd : Region.binds .any (ops[i].after[k]) with
          | false => simp
          | true =>
            have hlt := (hat i _ (Array.getElem?_eq_getElem (by omega))).1 _ (Array.getElem_mem hk) hbd
            have : L.getD (ops[i].after[k]).on false = true := by
              cases hb : L.getD (ops[i].after[k]).on false with
              | true => rfl
              | false => have := hleast _ ⟨by omega, hb⟩; omega
            rw [this]; simp
      rw [he] at this
      cases this
    · obtain ⟨o, ho, hl, hr⟩ := ready_iff.1 hi
      have hio : i < ops.size := (Array.getElem?_eq_some_iff.1 ho).1
      have hli : L.getD i false = false := by
        rw [Array.getD_eq_getD_getElem?] at hl ⊢
        rw [Array.getElem?_eq_getElem (by omega)] at hl ⊢
        simpa using hl
      have him : i < m := by
        rcases Nat.lt_or_ge i m with h | h
        · exact h
        · by_cases hex2 : ∃ j, j < m ∧ L.getD j false = false ∧ late ≠ some j
          · obtain ⟨j, hj, hjl, hjn⟩ := hex2
            have := reach_listed hcl ((hat i o ho).2.2 (by omega) j hj hjn) hr
            rw [this] at hjl; cases hjl
          · obtain ⟨j, hj, hjl⟩ := hex
            have hjs : late = some j := Classical.byContradiction fun hc => hex2 ⟨j, hj, hjl, hc⟩
            refine absurd ⟨j, hjs, hj, hjl, fun k hk hkj => ?_⟩ hlate
            cases hkl : L.getD k false with
            | true => rfl
            | false => exact absurd ⟨k, hk, hkl, fun e => hkj (by rw [hjs] at e; cases e; rfl)⟩ hex2
      obtain ⟨hgn, hpj⟩ := okPreD_at ((hat i o ho).2.1 him)
      obtain ⟨o', r, σj, ho', hdN, hgs, hx1, hx2⟩ := hdr.get i (Nat.zero_le _) him
      rw [ho] at ho'
      cases ho'
      have hseti : ∀ j, (L.setIfInBounds i true).getD j false = if j = i then true else L.getD j false := by
        intro j
        by_cases hji : j = i
        · subst hji
          simp [Array.getD_eq_getD_getElem?, Array.getElem?_setIfInBounds, hs, hio]
        · simp only [hji, if_false, Array.getD_eq_getD_getElem?, Array.getElem?_setIfInBounds, Ne.symm hji]
      have hopd : ∀ t, Operand.tmp t ∈ o.op.operands.toList → ∀ k, i ≤ k → k < m → dstAt ops k ≠ some t := by
        intro t ht k hk hkm hd
        have := ((hpj k t (by omega) hd).1 (.inl ht)).1
        omega
      have hdi : ∀ t, o.dst = some t → dstAt ops i = some t := fun t ht => by simp [dstAt, ho, ht]
      have hxo : ∀ x ∈ o.op.operands.toList, ∀ s, evS σj x = some s → SRep c.T bs w s (a.eval x) := by
        intro x hxm s hs
        cases x with
        | tmp t =>
          have hlk : lk τ t = some s := (hx1 t (hopd t hxm)).trans hs
          by_cases he : ∃ j, j < m ∧ dstAt ops j = some t
          · obtain ⟨j, hj, hdj⟩ := he
            exact h2 j t s hj (edge_listed ((hpj j t (by omega) hdj).1 (.inl hxm)).2 hr) hdj hlk
          · have hnot : ∀ j, 0 ≤ j → j < m → dstAt ops j ≠ some t := fun j _ hj hd => he ⟨j, hj, hd⟩
            rw [hdr.lk t hnot] at hlk
            exact h1 t s hlk (fun j hj _ => hnot j (Nat.zero_le _) hj)
        | const v =>
          simp only [evS] at hs
          split at hs
          · cases hs; exact Rep.im ‹_›
          · cases hs
        | global g => simp [evS] at hs
        | func f => cases hs; exact Rep.fn (va := []) (vb := []) rfl rfl (by simp) (by simp)
      -- whatever the operation does: the rest goes on
      have hB : ∀ bs' v w', (∀ j b, j < m → j ≠ i → bxAt bx j = some b → L.getD j false = false → bs'[b]? = some none) → WI c bs' H w' →
          (∀ s v, (∀ b' n sz, s = .r b' n sz → b' < base ∨ 0 < n) → SRep c.T bs w s v → SRep c.T bs' w' s v) → SRep c.T bs' w' r v → wpAny c.P .any ops R fuel (L.setIfInBounds i true) (a.put o.dst v) w' := by
        intro bs' v w' hbs' hW' hE hrep
        refine ih fuel _ bs' _ w' ?_ (by omega) (by simpa using hs) (hcl.set ho hr) ?_ ?_ hW' (by rw [Act.put_size]; exact hN) (by rw [Act.put_defers']; exact hD) ?_ ?_
        · have hmem : i ∈ (List.range m).filter fun i => !L.getD i false := List.mem_filter.2 ⟨List.mem_range.2 him, by rw [hli]; rfl⟩
          have hnd : ((List.range m).filter fun i => !L.getD i false).Nodup := List.nodup_range.filter _
          have : ((List.range m).filter fun j => !(L.setIfInBounds i true).getD j false) = ((List.range m).filter fun i => !L.getD i false).erase i := by
            rw [hnd.erase_eq_filter, List.filter_filter]
            refine List.filter_congr (fun j _ => ?_)
            rw [hseti j]
            by_cases hji : j = i
            · subst hji; simp
            · simp [hji]
          rw [this, List.length_erase_of_mem hmem]
          omega
        · intro j hj hjs
          rw [hseti j, if_neg (by omega)]
          exact hL j hj hjs
        · intro j b hj hal hlj
          rw [hseti] at hlj
          split at hlj
          · cases hlj
          · rename_i hji
            exact hbs' j b hj hji hal hlj
        · intro t s ht hnd
          have hti : o.dst ≠ some t := fun he => hnd i him (by rw [hseti, if_pos rfl]) (hdi t he)
          have := hE s _ (fun b' n sz hs => rBelow_lk hrσ t b' n sz (by rw [ht, hs])) (h1 t s ht (fun j hj hl => hnd j hj (by rw [hseti]; split <;> first | rfl | exact hl)))
          have he : (a.put o.dst v).tmps.getD t undef = a.tmps.getD t undef := by
            cases hd : o.dst with
            | none => rfl
            | some q =>
              have : q ≠ t := fun e => hti (by rw [hd, e])
              simp [Act.put, Array.getD_eq_getD_getElem?, Array.getElem?_setIfInBounds, this]
          rw [he]; exact this
        · intro j t s hj hl hd ht
          rw [hseti] at hl
          by_cases hji : j = i
          · subst hji
            have hod : o.dst = some t := by simpa [dstAt, ho] using hd
            have hlk := hx2 t hod (fun k hk hkm hdk => by
              have := hne j k t him hkm hd hdk
              omega)
            rw [hlk] at ht
            cases ht
            have htN : t < N := by rw [hod] at hdN; simpa [dstOk] using hdN
            have he : (a.put o.dst v).tmps.getD t undef = v := by
              rw [hod]; simp [Act.put, Array.getD_eq_getD_getElem?, Array.getElem?_setIfInBounds, hN, htN]
            rw [he]; exact hrep
          · rw [if_neg hji] at hl
            have hti : o.dst ≠ some t := fun he => hji (hne j i t hj him hd (hdi t he))
            have he : (a.put o.dst v).tmps.getD t undef = a.tmps.getD t undef := by
              cases hdd : o.dst with
              | none => rfl
              | some q =>
                have : q ≠ t := fun e => hti (by rw [hdd, e])
                simp [Act.put, Array.getD_eq_getD_getElem?, Array.getElem?_setIfInBounds, this]
            rw [he]
            exact hE s _ (fun b' n sz hs => rBelow_lk hrτ t b' n sz (by rw [ht, hs])) (h2 j t s hj hl hd ht)
      have hB0 : ∀ v w', WI c bs H w' → WExt bs w w' → SRep c.T bs w' r v → wpAny c.P .any ops R fuel (L.setIfInBounds i true) (a.put o.dst v) w' := fun v w' hW' hE hrep =>
        hB bs v w' (fun j b hj _ hal hlj => hbs j b hj hal hlj) hW' (fun s v _ h => h.ext hE) hrep
      rcases hgs with hgs | ⟨t, zs, b, hop, hg0, hz, hbxi, hHb, rfl⟩ | ⟨x, args, ats, f, fa, fb, ds, n, sz, cells, b, hop, hg0, hfx, hen, hds, hAR, hbxi, hHb, rfl⟩ | ⟨j, want, t, hg, hdj, htN, hlk, rfl⟩
      · rcases hgs with ⟨hg0, hx⟩ | ⟨j, want, t, b, hg, hdj, htN, hlk, hcase⟩
        · simp only [wpOp, ho, Region.wanted, hg0, if_true]
          exact .inl (hx.out bs a w hW hxo _ _ hB0)
        · obtain ⟨hji, hje⟩ := hgn j want hg
          obtain ⟨oj, hoj⟩ : ∃ oj, ops[j]? = some oj := ⟨_, Array.getElem?_eq_getElem (by omega)⟩
          have hdst : oj.dst = some t := by simpa [dstAt, hoj] using hdj
          have hgt : gSlot ops o = some t := by unfold gSlot; rw [hg]; exact hdj
          have hτ : lk τ t = some (.d (.im (.bool b))) := (hx1 t (fun k hk hkm hd => by
            have := ((hpj k t (by omega) hd).1 (.inr hgt)).1
            omega)).trans hlk
          have hy := yielded_of (c := c) (bs := bs) (w := w) hN hoj hdst htN (h2 j t _ (by omega) (edge_listed hje hr) hdj hτ)
          simp only [wpOp, ho, Region.wanted, hg, hy]
          rcases hcase with ⟨hw, hx⟩ | ⟨hw, hr0⟩
          · subst hw
            simp only [beq_self_eq_true, if_true]
            exact .inl (hx.out bs a w hW hxo _ _ hB0)
          · have : (some b == some want) = false := by simpa using hw
            simp only [this, Bool.false_eq_true, if_false]
            subst hr0
            exact hB0 undef w hW (WExt.refl _ _) (Rep.tu (vs := []) rfl (by simp))
      · have hbn := hbs i b him hbxi hli
        have hbl := (okBx_in hbx hbxi).1
        obtain ⟨cells, k1, k2, k3, k4⟩ := alloc_run (c := c) hz hop (TT (TT c.T bs) [some w.heap.size]) a w
        have hBe : Below w.heap.size w { w with heap := w.heap.push (.cells cells t) } := ⟨rfl, rfl, rfl, by simp, fun k hk => by
          show (w.heap.push _)[k]? = _
          rw [Array.getElem?_push, if_neg (by omega)]⟩
        obtain ⟨q1, q2⟩ := hW.fillB hBe hbn (by omega) (Nat.le_refl _) (show (w.heap.push _)[w.heap.size]? = _ from Array.getElem?_push_size) hHb k2 k3 (fun i d u hd hu => (k4 i d u hd hu).mono (fun _ _ h => h) (fun k hk _ => hBe.block k hk))
        simp only [wpOp, ho, Region.wanted, hg0, if_true]
        refine .inl ?_
        unfold Oper.wp
        rw [k1]
        refine hB _ _ _ ?_ q1 (fun s v hb hs => q2 s v (fun b' n sz he => by have := hb b' n sz he; omega) hs) ?_
        · intro j b' hj hji hal' hlj
          rw [List.getElem?_set_ne (fun e => hji (okBx_inj hbx hal' (by rw [← e]; exact hbxi)))]
          exact hbs j b' hj hal' hlj
        · refine ⟨w.heap.size, ?_, rfl⟩
          have := (List.getElem?_eq_some_iff.1 hbn).1
          rw [List.getElem?_set_self this]
      · have hbn := hbs i b him hbxi hli
        have hbl := (okBx_in hbx hbxi).1
        simp only [wpOp, ho, Region.wanted, hg0, if_true]
        refine .inl ?_
        have hxm : x ∈ o.op.operands.toList := by rw [hop]; simp [Op.operands, Call.operands]
        have hargs : ∀ y ∈ args.toList, y ∈ o.op.operands.toList := by
          intro y hy; rw [hop]; simp [Op.operands, Call.operands]; exact .inr (by simpa using hy)
        have hrx := hxo x hxm _ hfx
        have hra := argD_reps args.toList ds hds (fun y hy => hxo y (hargs y hy))
        cases hv : a.eval x with
        | func g' va vb =>
          rw [hv] at hrx
          generalize hd : Dv.fn (.func f) fa fb = dd at hrx
          cases hrx <;> cases hd
          rename_i va vb k1 k2 k3 k4
          unfold Oper.wp
          have hrun : (execOp a.eval o).run c.P w = .ok (.enter f (va.toArray ++ args.map a.eval ++ vb.toArray)) w := by
            simp [execOp, hop, resolve, hv, Deferred.ofValue, invoke, callFunc_enter hen]
          rw [hrun]
          have hall : Reps (TT c.T bs) w (fa ++ ds ++ fb) (va ++ args.toList.map a.eval ++ vb) := Reps.append (Reps.append ⟨k1, k2⟩ hra) ⟨k3, k4⟩
          have harr : va.toArray ++ args.map a.eval ++ vb.toArray = (va ++ args.toList.map a.eval ++ vb).toArray := by
            apply Array.ext'; simp
          simp only [Oper.upon]
          rw [harr]
          refine (hAR.out (TT c.T bs) w _ hW.tt hall).mono ?_
          rintro e w' ⟨g, cp, cs, t, rfl, hg0', hh, hncp, hsz, hl', hlf', hrep', hBe⟩
          obtain ⟨q1, q2⟩ := hW.fillB hBe hbn (by omega) hg0' hh hHb hl' hlf' hrep'
          refine hB _ _ _ ?_ q1 (fun s v hb hs => q2 s v (fun b' n sz he => by have := hb b' n sz he; omega) hs) ?_
          · intro j b' hj hji hal' hlj
            rw [List.getElem?_set_ne (fun e => hji (okBx_inj hbx hal' (by rw [← e]; exact hbxi)))]
            exact hbs j b' hj hal' hlj
          · refine .inr ⟨g, cp, cs, t, ?_, rfl, hncp, hh, hsz⟩
            have := (List.getElem?_eq_some_iff.1 hbn).1
            rw [List.getElem?_set_self this]
        | _ => rw [hv] at hrx; generalize hd : Dv.fn (.func f) fa fb = dd at hrx; cases hrx <;> cases hd
      · obtain ⟨hji, hje⟩ := hgn j want hg
        obtain ⟨oj, hoj⟩ : ∃ oj, ops[j]? = some oj := ⟨_, Array.getElem?_eq_getElem (by omega)⟩
        have hdst : oj.dst = some t := by simpa [dstAt, hoj] using hdj
        have hgt : gSlot ops o = some t := by unfold gSlot; rw [hg]; exact hdj
        have hτ : lk τ t = some (.d (.tu [])) := (hx1 t (fun k hk hkm hd => by
          have := ((hpj k t (by omega) hd).1 (.inr hgt)).1
          omega)).trans hlk
        have hy := yielded_none (c := c) (bs := bs) (w := w) hN hoj hdst htN (h2 j t _ (by omega) (edge_listed hje hr) hdj hτ)
        simp only [wpOp, ho, Region.wanted, hg, hy]
        have : ((none : Option Bool) == some want) = false := rfl
        simp only [this, Bool.false_eq_true, if_false]
        exact hB0 undef w hW (WExt.refl _ _) (Rep.tu (vs := []) rfl (by simp))

theorem WI.name {bs : List (Option Nat)} {w : World} (hW : WI c bs H w) (Zs : List (List Dv)) :
    WI c (bs ++ List.replicate Zs.length none) (H ++ Zs) w ∧ ∀ s v, SRep c.T bs w s v → SRep c.T (bs ++ List.replicate Zs.length none) w s v := by
  have hmem : ∀ g, some g ∈ bs ++ List.replicate Zs.length (none : Option Nat) ↔ some g ∈ bs := fun g => by
    rw [List.mem_append]
    exact ⟨fun h => h.resolve_right (fun h => by have := List.eq_of_mem_replicate h; cases this), .inl⟩
  have hget : ∀ i g, (bs ++ List.replicate Zs.length (none : Option Nat))[i]? = some (some g) → bs[i]? = some (some g) := fun i g h => by
    rcases Nat.lt_or_ge i bs.length with hi | hi
    · rwa [List.getElem?_append_left hi] at h
    · rw [List.getElem?_append_right hi, List.getElem?_replicate] at h
      split at h <;> cases h
  have hup : ∀ i q, bs[i]? = some q → (bs ++ List.replicate Zs.length (none : Option Nat))[i]? = some q := fun i q h => by
    rw [List.getElem?_append_left (List.getElem?_eq_some_iff.1 h).1]; exact h
  have hT : ∀ g, TT c.T (bs ++ List.replicate Zs.length (none : Option Nat)) g → TT c.T bs g := fun g h => by
    rcases h with h | h
    · exact .inl h
    · exact .inr ((hmem g).1 h)
  have hrep : ∀ d v, Rep (TT c.T bs) w d v → Rep (TT c.T (bs ++ List.replicate Zs.length none)) w d v := fun d v h => h.mono (fun g _ h => hT g h) (fun _ _ _ => rfl)
  refine ⟨⟨hW.os, hW.tape, hW.output, hW.size, hW.old, hW.told, fun i g h => hW.own i g (hget i g h), fun i g h => hup i _ (hW.ext i g h), fun g h => hW.blt g ((hmem g).1 h), fun i j g h1 h2 => hW.nd i j g (hget i g h1) (hget j g h2), by simp [hW.len],
    hW.erow, fun i g ds h1 h2 => ?_⟩, fun s v hs => ?_⟩
  · have h1' := hget i g h1
    have hi := (List.getElem?_eq_some_iff.1 h1').1
    rw [List.getElem?_append_left (by rw [hW.len]; exact hi)] at h2
    obtain ⟨vs, t, k1, k2, k3, k4⟩ := hW.box i g ds h1' h2
    exact ⟨vs, t, k1, k2, k3, fun j d v hd hv => hrep d v (k4 j d v hd hv)⟩
  · cases s with
    | d x => exact hrep x v hs
    | p b o => obtain ⟨g, hb, hv⟩ := hs; exact ⟨g, hup b _ hb, hv⟩
    | e ds =>
      obtain ⟨g, off, cs, t, fr, hv, hh, hn, hlf, hr⟩ := hs
      exact ⟨g, off, cs, t, fr, hv, hh, fun h => hn (hT g h), hlf, fun j d hd => by
        obtain ⟨u, hu, hr'⟩ := hr j d hd
        exact ⟨u, hu, hrep d u hr'⟩⟩
    | r b n sz =>
      rcases hs with ⟨h1, h2, h3⟩ | ⟨g, cp, cs, t, hb, hv, hn, hh, hs'⟩
      · exact .inl ⟨h1, h2, hup b _ h3⟩
      · exact .inr ⟨g, cp, cs, t, hup b _ hb, hv, hn, hh, hs'⟩
    | u => trivial

/-- The drawn region, gone through in the order of its text. -/
structure DC2 (c : Cx) (N : Nat) (ops : Array Oper) (bx : List (Nat × Nat)) (base : Nat) (i : Nat) (Q : Sg → List (List Dv) → Prop) (σ : Sg) (H : List (List Dv)) : Prop where
  out : ∃ m τ, DR2 c N ops bx H i σ m τ ∧ ∃ late, okDraw2 ops m late = true ∧ rBelow base τ = true ∧ (∀ fuel, ops.size - m ≤ fuel → AY c N ops fuel (firstL ops m) Q τ H) ∧
    ∀ l, late = some l → ∃ d, dstAt ops l = some d ∧ ∀ fuel, ops.size - m + 1 ≤ fuel → AY c N ops fuel ((firstL ops m).setIfInBounds l false) Q (.put d .u :: τ) H
theorem DC2.cons {i : Nat} {o : Oper} {r : Sv} {Q : Sg → List (List Dv) → Prop} (ho : ops[i]? = some o) (hg : o.guard = none) (hd : dstOk N o.dst = true) (hx : XS c o H σ r) (h : DC2 c N ops bx base (i + 1) Q (put σ o.dst r) H) : DC2 c N ops bx base i Q σ H := by
  obtain ⟨m, τ, h1, h2, h3⟩ := h.out
  exact ⟨m, τ, .cons ho hd (.inl ⟨hg, hx⟩) h1, h2, h3⟩
theorem DC2.split {i : Nat} {Q : Sg → List (List Dv) → Prop} (t : Nat) {b : Bool} (hb : lk σ t = some (.d (.im (.bool b)))) (h1 : b = true → DC2 c N ops bx base i Q σ H) (h2 : b = false → DC2 c N ops bx base i Q σ H) : DC2 c N ops bx base i Q σ H := by
  cases b
  · exact h2 rfl
  · exact h1 rfl
theorem DC2.gyes {i j : Nat} {want : Bool} {o oj : Oper} {t : Tmp} {b : Bool} {Q : Sg → List (List Dv) → Prop} (ho : ops[i]? = some o) (hg : o.guard = some (j, want)) (hj : ops[j]? = some oj) (hdj : oj.dst = some t) (htN : dstOk N (some t) = true)
    (hb : lk σ t = some (.d (.im (.bool b)))) (hw : b = want) {r : Sv} (hd : dstOk N o.dst = true) (hx : XS c o H σ r) (h : DC2 c N ops bx base (i + 1) Q (put σ o.dst r) H) : DC2 c N ops bx base i Q σ H := by
  obtain ⟨m, τ, h1, h2, h3⟩ := h.out
  exact ⟨m, τ, .cons ho hd (.inr ⟨j, want, t, b, hg, by simp [dstAt, hj, hdj], by simpa [dstOk] using htN, hb, .inl ⟨hw, hx⟩⟩) h1, h2, h3⟩
theorem DC2.gno {i j : Nat} {want : Bool} {o oj : Oper} {t : Tmp} {b b' : Bool} {Q : Sg → List (List Dv) → Prop} (ho : ops[i]? = some o) (hg : o.guard = some (j, want)) (hj : ops[j]? = some oj) (hdj : oj.dst = some t) (htN : dstOk N (some t) = true)
    (hb : lk σ t = some (.d (.im (.bool b)))) (hw : b = b') (hne : b' ≠ want) (hd : dstOk N o.dst = true) (h : DC2 c N ops bx base (i + 1) Q (put σ o.dst (.d (.tu []))) H) : DC2 c N ops bx base i Q σ H := by
  obtain ⟨m, τ, h1, h2, h3⟩ := h.out
  subst hw
  exact ⟨m, τ, .cons ho hd (.inr ⟨j, want, t, b, hg, by simp [dstAt, hj, hdj], by simpa [dstOk] using htN, hb, .inr ⟨hne, rfl⟩⟩) h1, h2, h3⟩
theorem DC2.al {i d : Nat} {t : TypeId} {ty : TypeId} {pos : String} {after : Array Edge} {zs : List Dv} {Q : Sg → List (List Dv) → Prop} (b : Nat) (ho : ops[i]? = some ⟨some d, .alloc t, ty, pos, after, none⟩) (hd : dstOk N (some d) = true) (hz : zeroD c.P t = some zs) (hb : bxAt bx i = some b) (hH : H[b]? = some zs)
    (h : DC2 c N ops bx base (i + 1) Q (put σ (some d) (.p b 0)) H) : DC2 c N ops bx base i Q σ H := by
  obtain ⟨m, τ, h1, h2, h3⟩ := h.out
  exact ⟨m, τ, .al ho rfl rfl rfl (by simpa [dstOk] using hd) hz ⟨hb, hH⟩ h1, h2, h3⟩
/-- A call that answers a row of its own. -/
theorem DC2.cr {i d : Nat} {ty : TypeId} {pos : String} {after : Array Edge} {x : Operand} {args : Array Operand} {ats : Array TypeId} {f : FuncId} {fa fb ds cells : List Dv} {n sz : Nat} {Q : Sg → List (List Dv) → Prop} (b : Nat) (ho : ops[i]? = some ⟨some d, .call ⟨.value x, args, ats⟩, ty, pos, after, none⟩) (hd : dstOk N (some d) = true)
    (hx : evS σ x = some (.d (.fn (.func f) fa fb))) (he : enterB c.P f = true) (hds : argD σ args.toList = some ds) (h : AR c.P f (fa ++ ds ++ fb) n sz cells) (hb : bxAt bx i = some b) (hH : H[b]? = some cells)
    (hk : DC2 c N ops bx base (i + 1) Q (put σ (some d) (.r b n sz)) H) : DC2 c N ops bx base i Q σ H := by
  obtain ⟨m, τ, h1, h2, h3⟩ := hk.out
  exact ⟨m, τ, .cr ho rfl rfl rfl (by simpa [dstOk] using hd) ⟨hx, he, hds, h⟩ ⟨hb, hH⟩ h1, h2, h3⟩
theorem DC2.gnt {i j : Nat} {want : Bool} {o oj : Oper} {t : Tmp} {Q : Sg → List (List Dv) → Prop} (ho : ops[i]? = some o) (hg : o.guard = some (j, want)) (hj : ops[j]? = some oj) (hdj : oj.dst = some t) (htN : dstOk N (some t) = true)
    (hb : lk σ t = some (.d (.tu []))) (hd : dstOk N o.dst = true) (h : DC2 c N ops bx base (i + 1) Q (put σ o.dst (.d (.tu []))) H) : DC2 c N ops bx base i Q σ H := by
  obtain ⟨m, τ, h1, h2, h3⟩ := h.out
  exact ⟨m, τ, .gn ho hd hg (by simp [dstAt, hj, hdj]) (by simpa [dstOk] using htN) hb h1, h2, h3⟩
/-- Behind the first part: what is left comes in one order alone. -/
theorem DC2.done {i : Nat} {Q : Sg → List (List Dv) → Prop} (hr : rBelow base σ = true) (hok : okDraw ops i = true) (h : AO c N ops (List.range' i (ops.size - i)) Q σ H) : DC2 c N ops bx base i Q σ H := by
  have hm := (okDraw_at hok).1
  refine ⟨i, σ, .nil i σ, none, ?_, hr, fun fuel hf => ⟨fun R hR a w hS => ?_⟩, fun l h => by cases h⟩
  · obtain ⟨h1, h2⟩ := okDraw_at hok
    simp only [okDraw2, Bool.and_eq_true, decide_eq_true_eq, List.all_eq_true, List.mem_range]
    refine ⟨h1, fun k hk => ?_⟩
    obtain ⟨o, ho⟩ : ∃ o, ops[k]? = some o := ⟨_, Array.getElem?_eq_getElem hk⟩
    obtain ⟨q1, q2, q3⟩ := h2 k o ho
    rw [ho]
    simp only [Bool.and_eq_true, Array.all_eq_true]
    refine ⟨fun e he => by rw [decide_eq_true (q1 _ (Array.getElem_mem he))]; simp, ?_⟩
    split
    · exact okPreD_of h1 ‹_› (q2 ‹_›)
    · rename_i hki
      simp only [List.all_eq_true, List.mem_range]
      exact fun j hj => by rw [reach_of (q3 hki j (by omega))]; rfl
  · refine tail_any hok fuel i (firstL ops i) a w (Nat.le_refl _) hm (by simp [firstL]) hf (fun j hj => ?_) (h.out R hR a w hS)
    rw [Array.getD_eq_getD_getElem?, Array.getElem?_eq_getElem (by simp [firstL]; exact hj)]
    simp [firstL]
theorem AY.mono {Q : Sg → List (List Dv) → Prop} : ∀ k L σ' H', AY c N ops k L Q σ' H' → ∀ k', k ≤ k' → AY c N ops k' L Q σ' H' := by
  intro k L σ' H' hk k' hkk
  refine ⟨fun R hR a w hS => ?_⟩
  have h1 := hk.out R hR a w hS
  clear hS hk
  induction k generalizing L a w k' with
  | zero =>
    cases k' with
    | zero => exact h1
    | succ k' => exact ⟨fun _ => h1.2, fun j hj => by rw [h1.1] at hj; cases hj⟩
  | succ k ih =>
    cases k' with
    | zero => omega
    | succ k' => exact ⟨h1.1, fun j hj => wpOp_mono (fun a w h => ih _ _ (by omega) a w h) (h1.2 j hj)⟩
/-- Behind the first part: what is left comes in several orders. -/
theorem DC2.any {i : Nat} {Q : Sg → List (List Dv) → Prop} (hr : rBelow base σ = true) (hok : okDraw2 ops i none = true) (h : AY c N ops (ops.size - i) (firstL ops i) Q σ H) : DC2 c N ops bx base i Q σ H := by
  refine ⟨i, σ, .nil i σ, none, hok, hr, fun fuel hf => ?_, fun l h => by cases h⟩
  exact AY.mono _ _ _ _ h fuel hf
/-- As before; but the operation l may be done behind others that come after it. -/
theorem DC2.late {i d : Nat} {Q : Sg → List (List Dv) → Prop} (l : Nat) (hr : rBelow base σ = true) (hok : okDraw2 ops i (some l) = true) (hd : dstAt ops l = some d) (h : AY c N ops (ops.size - i) (firstL ops i) Q σ H)
    (h2 : AY c N ops (ops.size - i + 1) ((firstL ops i).setIfInBounds l false) Q (.put d .u :: σ) H) : DC2 c N ops bx base i Q σ H :=
  ⟨i, σ, .nil i σ, some l, hok, hr, fun fuel hf => AY.mono _ _ _ _ h fuel hf, fun l' e => by cases e; exact ⟨d, hd, fun fuel hf => AY.mono _ _ _ _ h2 fuel hf⟩⟩
theorem AW.drawn2 (Zs : List (List Dv)) (bx : List (Nat × Nat)) {id : Nat} {Q : Ax → Sg → List (List Dv) → Prop} (hmix : c.P.follows .mixedOrders = true) (hb0 : c.b0.length ≤ H.length) (hr : rBelow H.length σ = true)
    (hz : okBx H.length (H.length + Zs.length) bx = true) (h : DC2 c N ops bx H.length 0 (Q .normal) σ (H ++ Zs)) : AW c N (.region id ops true) Q σ H := by
  obtain ⟨m, τ, h1, late, h2, h3, h4, h5⟩ := h.out
  refine ⟨fun R k1 _ _ a w ⟨bs, hW, hN, hD, hs⟩ => ?_⟩
  refine wp_region_any hmix ?_
  have hm := (okDraw2_at h2).1
  have hW' : WI c bs H { w with drawn := w.drawn + 1 } := by
    refine ⟨hW.os, hW.tape, hW.output, hW.size, hW.old, hW.told, hW.own, hW.ext, hW.blt, hW.nd, hW.len, hW.erow, fun i g ds h1 h2 => ?_⟩
    obtain ⟨vs, t, k1, k2, k3, k4⟩ := hW.box i g ds h1 h2
    exact ⟨vs, t, k1, k2, k3, fun j d v hj hv => (k4 j d v hj hv).mono (fun _ _ h => h) (fun _ _ _ => rfl)⟩
  have hE : WExt bs w { w with drawn := w.drawn + 1 } := ⟨Nat.le_refl _, fun _ _ _ => rfl, fun _ _ vs _ h => ⟨vs, h, rfl⟩⟩
  obtain ⟨q1, q2⟩ := hW'.name Zs
  have hfil : ((List.range m).filter fun i => !(Array.replicate ops.size false).getD i false) = List.range m := by
    rw [List.filter_eq_self]
    intro i _
    simp [Array.getD_eq_getD_getElem?, Array.getElem?_replicate]
    split <;> rfl
  refine pre_any2 h2 hz hb0 h1 hr h3 (fun bs' a' w' hW'' hN' hD' hs' fuel hf => (h4 fuel hf).out R k1 a' w' ⟨bs', hW'', hN', hD', hs'⟩) (fun l hl bs' a' w' hW'' hN' hD' hs' fuel hf => by
    obtain ⟨d, hd, h6⟩ := h5 l hl
    refine (h6 fuel hf).out R k1 a' w' ⟨bs', hW'', hN', hD', fun t s ht => ?_⟩
    simp only [lk] at ht
    split at ht
    · cases ht; trivial
    · rename_i hne
      exact hs' t s ht (fun e => hne (by rw [hd] at e; cases e; first | rfl | simp))) m ops.size _ (bs ++ List.replicate Zs.length none) a _ (by rw [hfil, List.length_range]) (by omega) (by simp) (fun k o hk => by
    simp [Array.getD_eq_getD_getElem?, Array.getElem?_replicate] at hk
    split at hk <;> simp at hk) ?_ ?_ q1 hN hD ?_ ?_
  · intro j hj hjs
    simp [Array.getD_eq_getD_getElem?, Array.getElem?_replicate, hjs]
  · intro j b hj hal _
    have hz' := okBx_in hz hal
    rw [List.getElem?_append_right (by rw [← hW.len]; omega), List.getElem?_replicate, if_pos (by rw [← hW.len]; omega)]
  · exact fun t s ht _ => q2 s _ ((hs t s ht).ext hE)
  · intro j t s hj hl
    simp [Array.getD_eq_getD_getElem?, Array.getElem?_replicate] at hl
    split at hl <;> simp at hl

theorem AO.callR {i : Nat} {l : List Nat} {Q : Sg → List (List Dv) → Prop} {dst : Option Tmp} {ty : TypeId} {pos : String} {after : Array Edge} {x : Operand} {args : Array Operand} {ats : Array TypeId} {f : FuncId} {fa fb ds cells : List Dv} {n sz : Nat}
    (ho : ops[i]? = some ⟨dst, .call ⟨.value x, args, ats⟩, ty, pos, after, none⟩) (hd : dstOk N dst = true) (hx : evS σ x = some (.d (.fn (.func f) fa fb))) (he : enterB c.P f = true) (hds : argD σ args.toList = some ds)
    (hr : rBelow H.length σ = true) (hb0 : c.b0.length ≤ H.length) (h : AR c.P f (fa ++ ds ++ fb) n sz cells) (hk : AO c N ops l Q (put σ dst (.r H.length n sz)) (H ++ [cells])) : AO c N ops (i :: l) Q σ H := by
  refine ⟨fun R hR a w ⟨bs, hW, hN, hD, hs⟩ => ?_⟩
  rw [wpOps_cons]
  simp only [wpOp, ho, Region.wanted, if_true]
  refine .inl ?_
  have hrx := ev_rep hs x _ hx
  have hra := argD_reps args.toList ds hds (fun y _ s hy => ev_rep hs y s hy)
  cases hv : a.eval x with
  | func g' va vb =>
    rw [hv] at hrx
    generalize hd' : Dv.fn (.func f) fa fb = dd at hrx
    cases hrx <;> cases hd'
    rename_i va vb k1 k2 k3 k4
    unfold Oper.wp
    rw [run_call he hv]
    have hall : Reps (TT c.T bs) w (fa ++ ds ++ fb) (va ++ args.toList.map a.eval ++ vb) := Reps.append (Reps.append ⟨k1, k2⟩ hra) ⟨k3, k4⟩
    have harr : va.toArray ++ args.map a.eval ++ vb.toArray = (va ++ args.toList.map a.eval ++ vb).toArray := by
      apply Array.ext'; simp
    simp only [Oper.upon]
    rw [harr]
    refine (h.out (TT c.T bs) w _ hW.tt hall).mono ?_
    rintro e w' ⟨g, cp, cs, t, rfl, hg0, hh, hncp, hsz, hl', hlf', hrep', hBe⟩
    obtain ⟨q1, q2⟩ := hW.name [cells]
    have hbn : (bs ++ List.replicate [cells].length (none : Option Nat))[H.length]? = some none := by
      rw [hW.len, List.getElem?_append_right (Nat.le_refl _), Nat.sub_self]; rfl
    have hTT : ∀ k, TT c.T (bs ++ List.replicate [cells].length (none : Option Nat)) k → TT c.T bs k := fun k hk => by
      rcases hk with hk | hk
      · exact .inl hk
      · rw [List.mem_append] at hk
        rcases hk with hk | hk
        · exact .inr hk
        · simp at hk
    obtain ⟨r1, r2⟩ := q1.fillB hBe hbn hb0 hg0 hh (by rw [List.getElem?_append_right (Nat.le_refl _), Nat.sub_self]; rfl) hl' hlf' (fun j d u hd hu => (hrep' j d u hd hu).mono (fun k _ hk => by
      rcases hk with hk | hk
      · exact .inl (hTT k hk)
      · exact .inr hk) (fun _ _ _ => rfl))
    refine hk.out R hR _ w' ⟨_, r1, by rw [Act.put_size]; exact hN, by rw [Act.put_defers']; exact hD, ?_⟩
    have hold : ∀ t s, lk σ t = some s → SRep c.T ((bs ++ List.replicate [cells].length none).set H.length (some g)) w' s (a.tmps.getD t undef) := fun t s ht =>
      r2 s _ (fun b' n sz he => by
        subst he
        have := rBelow_lk hr t b' n sz ht
        omega) (q2 s _ (hs t s ht))
    have hnew : SRep c.T ((bs ++ List.replicate [cells].length none).set H.length (some g)) w' (.r H.length n sz) (.slice (some ⟨g, 0, none⟩) n cp) :=
      .inr ⟨g, cp, cs, t, by rw [List.getElem?_set_self (by rw [hW.len]; simp)], rfl, hncp, hh, hsz⟩
    exact slots_put hN hd hnew hold
  | _ => rw [hv] at hrx; generalize hd' : Dv.fn (.func f) fa fb = dd at hrx; cases hrx <;> cases hd'
end
end Go.Proofs.Ytgafdhpagifpcaa.Av
