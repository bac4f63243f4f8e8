/-
  OWN WORK. The calculus: functions, entered and left; calls.
-/
import Derived.Test.YtgafdhpagifpcaaAv2
import Derived.Laws.Cells
import Derived.Deep.MidRow
namespace Go.Proofs.Ytgafdhpagifpcaa.Av
open Go Go.RowKit
set_option linter.unusedVariables false
set_option linter.unusedSimpArgs false

/-! ### 7. Types -/
def rowB (P : Program) (t : TypeId) : Bool := match P.underlying t with
  | some (.struct _) => true
  | some (.array _ _) => true
  | _ => false
def oneB (P : Program) (t : TypeId) : Bool := match P.underlying t with
  | some (.struct _) => false
  | some (.array _ _) => false
  | some _ => true
  | none => false
def szB (P : Program) (t : TypeId) : Option Nat := (P.info? t).map (·.size)

theorem agg_of_row {P : Program} {t : TypeId} (h : rowB P t = true) (w : World) : (isAgg t).run P w = .ok true w := by
  unfold rowB at h
  cases hu : P.underlying t with
  | none => simp [hu] at h
  | some d =>
    unfold isAgg
    rw [Sem.run_bind, run_underlying hu w]
    cases d <;> simp_all
theorem agg_of_one {P : Program} {t : TypeId} (h : oneB P t = true) (w : World) : (isAgg t).run P w = .ok false w := by
  unfold oneB at h
  cases hu : P.underlying t with
  | none => simp [hu] at h
  | some d =>
    unfold isAgg
    rw [Sem.run_bind, run_underlying hu w]
    cases d <;> simp_all
theorem size_run {P : Program} {t : TypeId} {n : Nat} (h : szB P t = some n) (w : World) : (sizeOf t).run P w = .ok n w := by
  unfold szB at h
  cases hq : P.info? t with
  | none => simp [hq] at h
  | some i => simp [hq] at h; subst h; simp [sizeOf, typeInfo, hq]

theorem load_one {P : Program} {t : TypeId} (h : oneB P t = true) {w : World} {a : Addr} {v : Value} (hc : w.cell? a = some v) : (loadVar t a).run P w = .ok v w := by
  simp [loadVar, Sem.run_bind, agg_of_one h, run_load, hc]
theorem load_row {P : Program} {t : TypeId} {n : Nat} (h : rowB P t = true) (hn : szB P t = some n) {w : World} {a : Addr} {vs : List Value} (hl : vs.length = n)
    (hc : ∀ j v, vs[j]? = some v → w.cell? (a.add j) = some v) : (loadVar t a).run P w = .ok (.agg vs.toArray) w := by
  have := run_loadCells_list (P := P) w a vs hc
  rw [hl] at this
  simp [loadVar, Sem.run_bind, agg_of_row h, size_run hn, this]

/-! ### 8. What a function answers -/
def Reps (T : Nat → Prop) (w : World) (ds : List Dv) (vs : List Value) : Prop := ds.length = vs.length ∧ ∀ (i : Nat) (d : Dv) (v : Value), ds[i]? = some d → vs[i]? = some v → Rep T w d v

/-- Called with what reads as ds, whatever the memory: it returns, d of it with Q; what there was is as it was. T: blocks that the arguments are none of: the answer is none of them. -/
structure AC (P : Program) (f : FuncId) (ds : List Dv) (Q : Dv → Prop) : Prop where
  out : ∀ (T : Nat → Prop) (w : World) (vs : List Value), (∀ g, T g → g < w.heap.size) → Reps T w ds vs →
    Calls P f vs.toArray w fun e w' => ∃ d v, e = .returned v ∧ Q d ∧ Rep T w' d v ∧ Below w.heap.size w w'

theorem AC.mono {P : Program} {f : FuncId} {ds : List Dv} {Q Q' : Dv → Prop} (h : AC P f ds Q) (hq : ∀ d, Q d → Q' d) : AC P f ds Q' :=
  ⟨fun T w vs hT hr => (h.out T w vs hT hr).mono fun e w' ⟨d, v, h1, h2, h3⟩ => ⟨d, v, h1, hq d h2, h3⟩⟩

/-- The same for a function that gets a pointer first: h is what its block holds, h' what it holds behind the call. -/
structure AP (P : Program) (f : FuncId) (h : List Dv) (ds : List Dv) (Q : Dv → List Dv → Prop) : Prop where
  out : ∀ (T : Nat → Prop) (w : World) (g : Nat) (vs : List Value), (∀ g, T g → g < w.heap.size) → g < w.heap.size → BoxAt (TT T [some g]) w g h → Reps (TT T [some g]) w ds vs →
    Calls P f (.pointer (some ⟨g, 0, none⟩) :: vs).toArray w fun e w' => ∃ d v h', e = .returned v ∧ Q d h' ∧ Rep (TT T [some g]) w' d v ∧ h'.length = h.length ∧ BoxAt (TT T [some g]) w' g h' ∧
      w'.os = w.os ∧ w'.tape = w.tape ∧ w'.output = w.output ∧ WExt [some g] w w'

theorem AP.mono {P : Program} {f : FuncId} {h ds : List Dv} {Q Q' : Dv → List Dv → Prop} (k : AP P f h ds Q) (hq : ∀ d h, Q d h → Q' d h) : AP P f h ds Q' :=
  ⟨fun T w g vs hT hg hb hr => (k.out T w g vs hT hg hb hr).mono fun e w' ⟨d, v, h', h1, h2, h3⟩ => ⟨d, v, h', h1, hq d h' h2, h3⟩⟩

/-! ### 9. Results -/
def resOne (P : Program) (σ : Sg) (H : List (List Dv)) : ResultVar → Option Dv
  | .tmp t => match lk σ t with
    | some (.d x) => some (wk x)
    | _ => none
  | .cell a t => match lk σ a with
    | some (.p b o) => match H[b]? with
      | some ds => if rowB P t = true then (match szB P t with
          | some n => if o + n ≤ ds.length then some (.ag ((ds.drop o).take n)) else none
          | none => none) else if oneB P t = true then ds[o]? else none
      | none => none
    | _ => none
def resAll (P : Program) (σ : Sg) (H : List (List Dv)) : List ResultVar → Option (List Dv)
  | [] => some []
  | r :: rs => match resOne P σ H r, resAll P σ H rs with
    | some d, some ds => some (d :: ds)
    | _, _ => none
def resD (P : Program) (σ : Sg) (H : List (List Dv)) (rs : List ResultVar) : Option Dv := match resAll P σ H rs with
  | some [d] => some d
  | some ds => some (.tu ds)
  | none => none

theorem box_cell {c : Cx} {bs : List (Option Nat)} {H : List (List Dv)} {w : World} (hW : WI c bs H w) {b g : Nat} {ds : List Dv} (hb : bs[b]? = some (some g)) (hH : H[b]? = some ds) {o : Nat} {d : Dv} (hd : ds[o]? = some d) :
    ∃ v, w.cell? ⟨g, o, none⟩ = some v ∧ Rep (TT c.T bs) w d v ∧ leaf d = true := by
  obtain ⟨vs, t, h1, h2, h3, h4⟩ := hW.box b g ds hb hH
  have hlt : o < ds.length := (List.getElem?_eq_some_iff.1 hd).1
  have hv : vs[o]? = some vs[o] := Array.getElem?_eq_getElem (by omega)
  exact ⟨vs[o], by simp [World.cell?, h1, hv], h4 o d _ hd hv, h3 d (List.mem_of_getElem? hd)⟩

theorem add_at (g o j : Nat) : (⟨g, o, none⟩ : Addr).add j = ⟨g, o + j, none⟩ := by unfold Addr.add; split <;> simp_all

/-- A run of cells of a box. -/
theorem box_cells {c : Cx} {bs : List (Option Nat)} {H : List (List Dv)} {w : World} (hW : WI c bs H w) {b g : Nat} {ds : List Dv} (hb : bs[b]? = some (some g)) (hH : H[b]? = some ds) {o n : Nat} (hn : o + n ≤ ds.length) :
    ∃ vs : List Value, vs.length = n ∧ (∀ j v, vs[j]? = some v → w.cell? ((⟨g, o, none⟩ : Addr).add j) = some v) ∧ Rep (TT c.T bs) w (.ag ((ds.drop o).take n)) (.agg vs.toArray) := by
  obtain ⟨cs, t, h1, h2, h3, h4⟩ := hW.box b g ds hb hH
  refine ⟨(cs.toList.drop o).take n, by simp; omega, fun j v hv => ?_, ?_⟩
  · rw [add_at]
    rw [List.getElem?_take] at hv
    split at hv
    · rw [List.getElem?_drop] at hv
      simp only [World.cell?, h1]
      simpa using hv
    · cases hv
  · refine Rep.ag (by simp; omega) (fun d hd => h3 d (List.mem_of_mem_drop (List.mem_of_mem_take hd))) (fun i d v hd hv => ?_)
    rw [List.getElem?_take] at hd hv
    split at hd
    · rename_i hi
      rw [if_pos hi] at hv
      rw [List.getElem?_drop] at hd hv
      exact h4 _ d v hd (by simpa using hv)
    · cases hd

def resRun (tmps : Array Value) : ResultVar → Sem Value
  | .tmp t => pure (tmps.getD t undef)
  | .cell a t => do loadVar t (← asAddr (tmps.getD a undef))
theorem results_eq (fn : Func) (tmps : Array Value) : results fn tmps = (do
  let vs ← fn.results.mapM (resRun tmps)
  pure (if h : vs.size = 1 then vs[0] else .tuple vs)) := by
  unfold results
  congr 1

theorem resOne_run {c : Cx} {bs : List (Option Nat)} {H : List (List Dv)} {w : World} {σ : Sg} {a : Act} (hW : WI c bs H w) (hs : ∀ t s, lk σ t = some s → SRep c.T bs w s (a.tmps.getD t undef))
    {r : ResultVar} {d : Dv} (h : resOne c.P σ H r = some d) :
    ∃ v, (resRun a.tmps r).run c.P w = .ok v w ∧ Rep (TT c.T bs) w d v := by
  cases r with
  | tmp t =>
    simp only [resOne] at h
    cases hl : lk σ t with
    | none => simp [hl] at h
    | some s =>
      cases s <;> simp [hl] at h
      subst h
      exact ⟨_, rfl, Rep.wk (hs t _ hl)⟩
  | cell x t =>
    simp only [resOne] at h
    cases hl : lk σ x with
    | none => simp [hl] at h
    | some s =>
      cases s with
      | p b o =>
        obtain ⟨g, hb, hv⟩ := hs x _ hl
        rw [hl] at h
        simp only at h
        cases hH : H[b]? with
        | none => rw [hH] at h; cases h
        | some ds =>
          rw [hH] at h
          simp only at h
          simp only [resRun, hv, asAddr, Sem.run_bind, Sem.run_pure, Result.andThen_ok]
          split at h
          · rename_i hrow
            cases hz : szB c.P t with
            | none => rw [hz] at h; cases h
            | some n =>
              rw [hz] at h
              simp only at h
              split at h
              · cases h
                obtain ⟨vs, hl, hc, hr⟩ := box_cells hW hb hH ‹_›
                exact ⟨_, load_row hrow hz hl hc, hr⟩
              · cases h
          · split at h
            · rename_i hone
              obtain ⟨v, hc, hr, _⟩ := box_cell hW hb hH h
              exact ⟨v, load_one hone hc, hr⟩
            · cases h
      | d x => simp [hl] at h
      | e x => simp [hl] at h
      | r b n sz => simp [hl] at h
      | u => simp [hl] at h

theorem resAll_run {c : Cx} {bs : List (Option Nat)} {H : List (List Dv)} {w : World} {σ : Sg} {a : Act} (hW : WI c bs H w) (hs : ∀ t s, lk σ t = some s → SRep c.T bs w s (a.tmps.getD t undef)) :
    ∀ (rs : List ResultVar) (ds : List Dv), resAll c.P σ H rs = some ds →
    ∃ vs, (rs.mapM (resRun a.tmps)).run c.P w = .ok vs w ∧ Reps (TT c.T bs) w ds vs
  | [], ds, h => by
    cases h
    exact ⟨[], rfl, rfl, by simp⟩
  | r :: rs, ds, h => by
    simp only [resAll] at h
    cases h1 : resOne c.P σ H r with
    | none => rw [h1] at h; cases h
    | some d =>
      cases h2 : resAll c.P σ H rs with
      | none => rw [h1, h2] at h; cases h
      | some ds' =>
        rw [h1, h2] at h
        cases h
        obtain ⟨v, hv, hr⟩ := resOne_run hW hs h1
        obtain ⟨vs, hvs, hl, hrs⟩ := resAll_run hW hs rs ds' h2
        refine ⟨v :: vs, ?_, by simp [hl], fun i d' v' hd' hv' => ?_⟩
        · rw [List.mapM_cons, Sem.run_bind]
          simp only [hv, Result.andThen_ok, Sem.run_bind, hvs, Sem.run_pure]
        · cases i with
          | zero => simp at hd' hv'; subst hd' hv'; exact hr
          | succ i => simp at hd' hv'; exact hrs i d' v' hd' hv'

theorem results_run {c : Cx} {bs : List (Option Nat)} {H : List (List Dv)} {w : World} {σ : Sg} {a : Act} (hW : WI c bs H w) (hs : ∀ t s, lk σ t = some s → SRep c.T bs w s (a.tmps.getD t undef))
    {fn : Func} {d : Dv} (h : resD c.P σ H fn.results.toList = some d) : ∃ v, (results fn a.tmps).run c.P w = .ok v w ∧ Rep (TT c.T bs) w d v := by
  unfold resD at h
  cases h1 : resAll c.P σ H fn.results.toList with
  | none => rw [h1] at h; cases h
  | some ds =>
    obtain ⟨vs, hvs, hl, hr⟩ := resAll_run hW hs _ ds h1
    rw [h1] at h
    have hrun : (fn.results.mapM (resRun a.tmps)).run c.P w = .ok vs.toArray w := by
      rw [Array.mapM_eq_mapM_toList, Sem.run_map, hvs]
      rfl
    rw [results_eq, Sem.run_bind, hrun]
    simp only [Result.andThen_ok, Sem.run_pure]
    match ds, vs, hl, h with
    | [d'], [v], _, h =>
      cases h
      exact ⟨v, by simp, hr 0 _ _ rfl rfl⟩
    | [], vs, hl, h =>
      cases h
      obtain rfl : vs = [] := List.eq_nil_of_length_eq_zero (by simpa using hl.symm)
      exact ⟨_, rfl, Rep.tu (vs := []) rfl (by simp)⟩
    | d1 :: d2 :: ds, vs, hl, h =>
      cases h
      refine ⟨.tuple vs.toArray, ?_, Rep.tu hl hr⟩
      have : ¬ vs.toArray.size = 1 := by simp at hl ⊢; omega
      rw [dif_neg this]
end Go.Proofs.Ytgafdhpagifpcaa.Av
