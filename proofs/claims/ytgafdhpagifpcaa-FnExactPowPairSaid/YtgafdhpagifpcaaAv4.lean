/-
  OWN WORK. The calculus: entering and leaving a function; calls of functions.
-/
import Derived.Test.YtgafdhpagifpcaaAv3
namespace Go.Proofs.Ytgafdhpagifpcaa.Av
open Go Go.RowKit
set_option linter.unusedVariables false
set_option linter.unusedSimpArgs false

def parms : Nat → List Sv → Sg
  | _, [] => []
  | i, s :: l => .put i s :: parms (i + 1) l
theorem parms_lk : ∀ (l : List Sv) (i t : Nat) (s : Sv), lk (parms i l) t = some s → i ≤ t ∧ l[t - i]? = some s
  | [], i, t, s, h => by simp [parms, lk] at h
  | s0 :: l, i, t, s, h => by
    simp only [parms, lk] at h
    split at h
    · rename_i he; subst he; simp at h ⊢; exact h
    · have ⟨h1, h2⟩ := parms_lk l (i + 1) t s h
      refine ⟨by omega, ?_⟩
      obtain ⟨k, hk⟩ : ∃ k, t - i = k + 1 := ⟨t - i - 1, by omega⟩
      rw [hk, List.getElem?_cons_succ]
      rwa [show t - (i + 1) = k from by omega] at h2

/-- What must hold where the function's text ends. -/
def endQ (P : Program) (rs : List ResultVar) (Q : Dv → List (List Dv) → Prop) : Ax → Sg → List (List Dv) → Prop
  | .exit _, _, _ => False
  | .normal, σ, H => ∃ d, resD P σ H rs = some d ∧ Q d H
  | .ret, σ, H => ∃ d, resD P σ H rs = some d ∧ Q d H

section
variable {P : Program} {f : FuncId} {fn : Func} {code : Code} {N : Nat} {rs : Array ResultVar}

theorem tmps_at (vs : List Value) (n t : Nat) (v : Value) (h : vs[t]? = some v) : (vs.toArray ++ Array.replicate n undef).getD t undef = v := by
  have hlt : t < vs.length := (List.getElem?_eq_some_iff.1 h).1
  rw [Array.getD_eq_getD_getElem?, Array.getElem?_append_left (by simpa using hlt)]
  simp [h]

theorem AC.intro {ds : List Dv} {Q : Dv → Prop} (hf : P.funcs[f]? = some fn) (hn : fn.ntmps = N) (hr : fn.results = rs) (hb : fn.body = some code) (hl : ds.length ≤ N)
    (h : ∀ w0 T, AW ⟨P, w0, T, []⟩ N code (endQ P rs.toList fun d _ => Q d) (parms 0 (ds.map .d)) []) : AC P f ds Q := by
  refine ⟨fun T w vs hT hvs => ?_⟩
  refine calls_of_wp hf hb ?_
  have hW : WI ⟨P, w, T, []⟩ [] [] w := ⟨rfl, rfl, rfl, Nat.le_refl _, fun _ _ _ => rfl, hT, fun i g h => by simp at h, fun i g h => by simp at h, fun g h => by simp at h,
    fun i j g h => by simp at h, rfl, fun g h => by simp at h, fun i g ds h => by simp at h⟩
  have hfin : ∀ σ' H' a' w', (∃ d, resD P σ' H' rs.toList = some d ∧ Q d) → St ⟨P, w, T, []⟩ N σ' H' a' w' →
      a'.defers = [] ∧ ∃ v, (results fn a'.tmps).run P w' = .ok v w' ∧ ∃ d v', Ending.returned v = .returned v' ∧ Q d ∧ Rep T w' d v' ∧ Below w.heap.size w w' := by
    rintro σ' H' a' w' ⟨d, hd, hq⟩ ⟨bs, hW', hN, hD, hs⟩
    obtain ⟨v, hv, hrep⟩ := results_run hW' hs (fn := fn) (by rw [hr]; exact hd)
    exact ⟨hD, v, hv, d, v, rfl, hq, hrep.mono (fun _ _ h => .inl h) (fun _ _ _ => rfl), ⟨hW'.os, hW'.tape, hW'.output, hW'.size, fun g hg => hW'.old g hg (by simp)⟩⟩
  refine (h w T).out _ ?_ ?_ ?_ _ w ⟨[], hW, ?_, rfl, ?_⟩
  · exact fun σ' H' a' w' hq hS => hfin σ' H' a' w' hq hS
  · exact fun i σ' H' a' w' hq hS => hq.elim
  · exact fun σ' H' a' w' hq hS => hfin σ' H' a' w' hq hS
  · have := hvs.1
    simp [hn]
    omega
  · intro t s ht
    obtain ⟨_, hs⟩ := parms_lk _ _ _ _ ht
    simp only [Nat.sub_zero, List.getElem?_map, Option.map_eq_some_iff] at hs
    obtain ⟨d, hd, rfl⟩ := hs
    have hlt : t < vs.length := by have := (List.getElem?_eq_some_iff.1 hd).1; have := hvs.1; omega
    have hv : vs[t]? = some vs[t] := List.getElem?_eq_getElem hlt
    rw [tmps_at vs _ t _ hv]
    exact (hvs.2 t d _ hd hv).mono (fun _ _ h => h.resolve_right (by simp)) (fun _ _ _ => rfl)

theorem AP.intro {hp : List Dv} {ds : List Dv} {Q : Dv → List Dv → Prop} (hf : P.funcs[f]? = some fn) (hn : fn.ntmps = N) (hr : fn.results = rs) (hb : fn.body = some code) (hl : ds.length + 1 ≤ N)
    (h : ∀ w0 T g, AW ⟨P, w0, T, [g]⟩ N code (endQ P rs.toList fun d H => ∃ h' Ht, H = h' :: Ht ∧ h'.length = hp.length ∧ Q d h') (parms 0 (.p 0 0 :: ds.map .d)) [hp]) : AP P f hp ds Q := by
  refine ⟨fun T w g vs hT hg hbox hvs => ?_⟩
  refine calls_of_wp hf hb ?_
  have hW : WI ⟨P, w, T, [g]⟩ [some g] [hp] w := ⟨rfl, rfl, rfl, Nat.le_refl _, fun _ _ _ => rfl, hT,
    fun i g' h => by
      cases i with
      | zero => simp at h; subst h; exact .inl rfl
      | succ i => simp at h,
    fun i g' h => by
      cases i with
      | zero => simp at h; subst h; rfl
      | succ i => simp at h,
    fun g' h => by simp at h; subst h; exact hg,
    fun i j g' h1 h2 => by
      cases i <;> cases j <;> simp_all, rfl,
    fun g' h vs t hv => ⟨vs, hv, rfl⟩,
    fun i g' ds h1 h2 => by
      cases i with
      | zero => simp at h1 h2; subst h1 h2; exact hbox
      | succ i => simp at h1⟩
  have hfin : ∀ σ' H' a' w', (∃ d, resD P σ' H' rs.toList = some d ∧ ∃ h' Ht, H' = h' :: Ht ∧ h'.length = hp.length ∧ Q d h') → St ⟨P, w, T, [g]⟩ N σ' H' a' w' →
      a'.defers = [] ∧ ∃ v, (results fn a'.tmps).run P w' = .ok v w' ∧ ∃ d v' h', Ending.returned v = .returned v' ∧ Q d h' ∧ Rep (TT T [some g]) w' d v' ∧ h'.length = hp.length ∧ BoxAt (TT T [some g]) w' g h' ∧
        w'.os = w.os ∧ w'.tape = w.tape ∧ w'.output = w.output ∧ WExt [some g] w w' := by
    rintro σ' H' a' w' ⟨d, hd, h', Ht, rfl, hlen, hq⟩ ⟨bs, hW', hN, hD, hs⟩
    obtain ⟨v, hv, hrep⟩ := results_run hW' hs (fn := fn) (by rw [hr]; exact hd)
    have hb0 : bs[0]? = some (some g) := hW'.ext 0 g rfl
    have hsub : ∀ g', g' < w'.heap.size → TT T [some g] g' → TT T bs g' := by
      rintro g' _ (h | h)
      · exact .inl h
      · simp at h; subst h; exact .inr (List.mem_of_getElem? hb0)
    obtain ⟨cs, t, k1, k2, k3, k4⟩ := hW'.box 0 g h' hb0 rfl
    refine ⟨hD, v, hv, d, v, h', rfl, hq, hrep.mono hsub (fun _ _ _ => rfl), hlen, ⟨cs, t, k1, k2, k3, fun j d v hj hv => (k4 j d v hj hv).mono hsub (fun _ _ _ => rfl)⟩, hW'.os, hW'.tape, hW'.output, hW'.size, ?_, ?_⟩
    · exact fun g' hg' hn => hW'.old g' hg' (by simpa using hn)
    · exact fun g' hg' vs t hv => hW'.erow g' (by simpa using hg') vs t hv
  refine (h w T g).out _ ?_ ?_ ?_ _ w ⟨[some g], hW, ?_, rfl, ?_⟩
  · exact fun σ' H' a' w' hq hS => hfin σ' H' a' w' hq hS
  · exact fun i σ' H' a' w' hq hS => hq.elim
  · exact fun σ' H' a' w' hq hS => hfin σ' H' a' w' hq hS
  · have := hvs.1
    simp [hn]
    omega
  · intro t s ht
    obtain ⟨_, hs⟩ := parms_lk _ _ _ _ ht
    simp only [Nat.sub_zero] at hs
    cases t with
    | zero =>
      simp at hs; subst hs
      rw [tmps_at (.pointer (some ⟨g, 0, none⟩) :: vs) _ 0 _ rfl]
      exact ⟨g, rfl, rfl⟩
    | succ t =>
      simp only [List.getElem?_cons_succ, List.getElem?_map, Option.map_eq_some_iff] at hs
      obtain ⟨d, hd, rfl⟩ := hs
      have hlt : t < vs.length := by have := (List.getElem?_eq_some_iff.1 hd).1; have := hvs.1; omega
      have hv : (.pointer (some ⟨g, 0, none⟩) :: vs)[t + 1]? = some vs[t] := by simp
      rw [tmps_at (.pointer (some ⟨g, 0, none⟩) :: vs) _ (t + 1) _ hv]
      exact hvs.2 t d _ hd (List.getElem?_eq_getElem hlt)
end

/-! ### 10. A call -/
def argD (σ : Sg) : List Operand → Option (List Dv)
  | [] => some []
  | x :: xs => match evS σ x, argD σ xs with
    | some (.d d), some ds => some (wk d :: ds)
    | _, _ => none
def enterB (P : Program) (f : FuncId) : Bool := match P.funcs[f]? with
  | some fn => fn.name != "runtime.NumGoroutine" && fn.body.isSome
  | none => false

theorem callFunc_enter {P : Program} {f : FuncId} (h : enterB P f = true) (args : Array Value) (w : World) : (callFunc f args).run P w = .ok (.enter f args) w := by
  unfold enterB at h
  cases hf : P.funcs[f]? with
  | none => rw [hf] at h; cases h
  | some fn =>
    rw [hf] at h
    simp only [Bool.and_eq_true, bne_iff_ne, ne_eq] at h
    have hb : fn.body.isNone = false := by cases hq : fn.body <;> simp [hq] at h ⊢
    simp [callFunc, hf, h.1, hb]
    intro hne
    simp [hne] at h

theorem argD_reps {c : Cx} {bs : List (Option Nat)} {w : World} {σ : Sg} {a : Act} : ∀ (xs : List Operand) (ds : List Dv), argD σ xs = some ds →
    (∀ x ∈ xs, ∀ s, evS σ x = some s → SRep c.T bs w s (a.eval x)) → Reps (TT c.T bs) w ds (xs.map a.eval)
  | [], ds, h, _ => by cases h; exact ⟨rfl, by simp⟩
  | x :: xs, ds, h, hx => by
    simp only [argD] at h
    cases h1 : evS σ x with
    | none => rw [h1] at h; cases h
    | some s =>
      cases h2 : argD σ xs with
      | none => rw [h1, h2] at h; cases s <;> cases h
      | some ds' =>
        rw [h1, h2] at h
        cases s with
        | d d =>
          cases h
          have hr := hx x (List.mem_cons_self) _ h1
          obtain ⟨hl, hrs⟩ := argD_reps xs ds' h2 (fun y hy => hx y (List.mem_cons_of_mem _ hy))
          refine ⟨by simp [hl], fun i d' v' hd' hv' => ?_⟩
          cases i with
          | zero => simp at hd' hv'; subst hd' hv'; exact Rep.wk hr
          | succ i => simp at hd' hv'; exact hrs i d' v' hd' (by simpa using hv')
        | p b o => cases h
        | e ds => cases h
        | r b n sz => cases h
        | u => cases h

theorem Reps.append {T : Nat → Prop} {w : World} {d1 d2 : List Dv} {v1 v2 : List Value} (h1 : Reps T w d1 v1) (h2 : Reps T w d2 v2) : Reps T w (d1 ++ d2) (v1 ++ v2) := by
  refine ⟨by simp [h1.1, h2.1], fun i d v hd hv => ?_⟩
  rcases Nat.lt_or_ge i d1.length with h | h
  · rw [List.getElem?_append_left h] at hd
    rw [List.getElem?_append_left (by rw [← h1.1]; exact h)] at hv
    exact h1.2 i d v hd hv
  · rw [List.getElem?_append_right h] at hd
    rw [List.getElem?_append_right (by rw [← h1.1]; exact h), ← h1.1] at hv
    exact h2.2 _ d v hd hv

theorem WI.tt {c : Cx} {bs : List (Option Nat)} {H : List (List Dv)} {w : World} (h : WI c bs H w) : ∀ g, TT c.T bs g → g < w.heap.size := by
  rintro g (hg | hg)
  · exact Nat.lt_of_lt_of_le (h.told g hg) h.size
  · exact h.blt g hg

/-- The world behind a call that leaves what was as it was. -/
theorem WI.below {c : Cx} {bs : List (Option Nat)} {H : List (List Dv)} {w w' : World} (h : WI c bs H w) (hb : Below w.heap.size w w') : WI c bs H w' ∧ WExt bs w w' := by
  have hE : WExt bs w w' := ⟨hb.size, fun g hg _ => hb.block g hg, fun g hg vs t hv => ⟨vs, (hb.block g (h.blt g hg)).trans hv, rfl⟩⟩
  refine ⟨⟨hb.os.trans h.os, hb.tape.trans h.tape, hb.output.trans h.output, Nat.le_trans h.size hb.size, fun g hg hn => (hb.block g (Nat.lt_of_lt_of_le hg h.size)).trans (h.old g hg hn), h.told, h.own, h.ext,
    fun g hg => Nat.lt_of_lt_of_le (h.blt g hg) hb.size, h.nd, h.len, fun g hg vs t hv => ?_, fun i g ds h1 h2 => ?_⟩, hE⟩
  · obtain ⟨vs', h1, h2⟩ := h.erow g hg vs t hv
    exact ⟨vs', (hb.block g ((Array.getElem?_eq_some_iff.1 h1).1)).trans h1, h2⟩
  · obtain ⟨vs, t, k1, k2, k3, k4⟩ := h.box i g ds h1 h2
    exact ⟨vs, t, (hb.block g ((Array.getElem?_eq_some_iff.1 k1).1)).trans k1, k2, k3, fun j d v hj hv => (k4 j d v hj hv).ext hE⟩

section
variable {c : Cx} {N : Nat} {H : List (List Dv)} {σ : Sg} {dst : Option Tmp} {ty : TypeId} {pos : String} {after : Array Edge} {gd : Option (Nat × Bool)}

theorem run_call {x : Operand} {args : Array Operand} {ats : Array TypeId} {a : Act} {w : World} {f : FuncId} {va vb : Array Value} (he : enterB c.P f = true) (hx : a.eval x = .func (.func f) va vb) :
    (execOp a.eval ⟨dst, .call ⟨.value x, args, ats⟩, ty, pos, after, gd⟩).run c.P w = .ok (.enter f (va ++ args.map a.eval ++ vb)) w := by
  simp [execOp, resolve, hx, Deferred.ofValue, invoke, callFunc_enter he]

/-- A call of a function value: what it answers is known. -/
theorem XS.call {x : Operand} {args : Array Operand} {ats : Array TypeId} {f : FuncId} {fa fb ds : List Dv} {r : Dv} (hx : evS σ x = some (.d (.fn (.func f) fa fb))) (he : enterB c.P f = true) (hds : argD σ args.toList = some ds)
    (h : AC c.P f (fa ++ ds ++ fb) (fun d => d = r)) : XS c ⟨dst, .call ⟨.value x, args, ats⟩, ty, pos, after, gd⟩ H σ (.d r) := by
  refine ⟨fun bs a w hW hops K Q hK => ?_⟩
  have hxm : x ∈ (Op.operands (.call ⟨.value x, args, ats⟩)).toList := by simp [Op.operands, Call.operands]
  have hargs : ∀ y ∈ args.toList, y ∈ (Op.operands (.call ⟨.value x, args, ats⟩)).toList := by
    intro y hy; simp [Op.operands, Call.operands]; exact .inr (by simpa using hy)
  have hrx := hops x hxm _ hx
  have hra := argD_reps args.toList ds hds (fun y hy => hops y (hargs y hy))
  cases hv : a.eval x with
  | func g va vb =>
    rw [hv] at hrx
    generalize hd : Dv.fn (.func f) fa fb = dd at hrx
    cases hrx <;> cases hd
    rename_i va vb k1 k2 k3 k4
    unfold Oper.wp
    rw [run_call he hv]
    have hall : Reps (TT c.T bs) w (fa ++ ds ++ fb) (va ++ args.toList.map a.eval ++ vb) := Reps.append (Reps.append ⟨k1, k2⟩ hra) ⟨k3, k4⟩
    have harr : va.toArray ++ args.map a.eval ++ vb.toArray = (va ++ args.toList.map a.eval ++ vb).toArray := by
      apply Array.ext'; simp
    simp only [Oper.upon]
    rw [harr]
    refine (h.out (TT c.T bs) w _ hW.tt hall).mono ?_
    rintro e w' ⟨d, v, rfl, rfl, hrep, hB⟩
    obtain ⟨h1, h2⟩ := hW.below hB
    exact hK v w' h1 h2 hrep
  | _ => rw [hv] at hrx; generalize hd : Dv.fn (.func f) fa fb = dd at hrx; cases hrx <;> cases hd

/-- A call whose answer is only told in part. -/
theorem AO.callQ {ops : Array Oper} {i : Nat} {l : List Nat} {Q : Sg → List (List Dv) → Prop} {x : Operand} {args : Array Operand} {ats : Array TypeId} {f : FuncId} {fa fb ds : List Dv}
    (ho : ops[i]? = some ⟨dst, .call ⟨.value x, args, ats⟩, ty, pos, after, none⟩) (hd : dstOk N dst = true) (hx : evS σ x = some (.d (.fn (.func f) fa fb))) (he : enterB c.P f = true) (hds : argD σ args.toList = some ds)
    (h : AC c.P f (fa ++ ds ++ fb) (fun d => AO c N ops l Q (put σ dst (.d d)) H)) : AO c N ops (i :: l) Q σ H := by
  refine ⟨fun R hR a w ⟨bs, hW, hN, hD, hs⟩ => ?_⟩
  rw [wpOps_cons]
  simp only [wpOp, ho, Region.wanted, if_true]
  refine .inl ?_
  have hrx := ev_rep hs x _ hx
  have hra := argD_reps args.toList ds hds (fun y _ s hy => ev_rep hs y s hy)
  cases hv : a.eval x with
  | func g va vb =>
    rw [hv] at hrx
    generalize hd : Dv.fn (.func f) fa fb = dd at hrx
    cases hrx <;> cases hd
    rename_i va vb k1 k2 k3 k4
    unfold Oper.wp
    rw [run_call he hv]
    have hall : Reps (TT c.T bs) w (fa ++ ds ++ fb) (va ++ args.toList.map a.eval ++ vb) := Reps.append (Reps.append ⟨k1, k2⟩ hra) ⟨k3, k4⟩
    have harr : va.toArray ++ args.map a.eval ++ vb.toArray = (va ++ args.toList.map a.eval ++ vb).toArray := by
      apply Array.ext'; simp
    simp only [Oper.upon]
    rw [harr]
    refine (h.out (TT c.T bs) w _ hW.tt hall).mono ?_
    rintro e w' ⟨d, v, rfl, hq, hrep, hB⟩
    obtain ⟨h1, h2⟩ := hW.below hB
    exact hq.out R hR _ w' ⟨bs, h1, by rw [Act.put_size]; exact hN, by rw [Act.put_defers']; exact hD, slots_put hN hd hrep (fun t s ht => (hs t s ht).ext h2)⟩
  | _ => rw [hv] at hrx; generalize hd : Dv.fn (.func f) fa fb = dd at hrx; cases hrx <;> cases hd
end
end Go.Proofs.Ytgafdhpagifpcaa.Av
