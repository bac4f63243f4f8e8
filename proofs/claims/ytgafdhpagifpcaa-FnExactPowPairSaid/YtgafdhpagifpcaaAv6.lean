/-
  OWN WORK. The calculus: boxes, stores, struct literals.
-/
import Derived.Test.YtgafdhpagifpcaaAv5
import Derived.Laws.CopyRow
namespace Go.Proofs.Ytgafdhpagifpcaa.Av
open Go Go.RowKit
set_option linter.unusedVariables false
set_option linter.unusedSimpArgs false

/-! ### 11. Cells written over -/
def setO : Nat → List Dv → List Dv → Option (List Dv)
  | 0, [], cs => some cs
  | 0, d :: ds, _ :: cs => match setO 0 ds cs with
    | some q => some (d :: q)
    | none => none
  | 0, _ :: _, [] => none
  | n + 1, ds, c :: cs => match setO n ds cs with
    | some q => some (c :: q)
    | none => none
  | _ + 1, _, [] => none
theorem setO_spec : ∀ (off : Nat) (ds cs r : List Dv), setO off ds cs = some r → r.length = cs.length ∧ off + ds.length ≤ cs.length ∧
    ∀ i, r[i]? = if off ≤ i ∧ i < off + ds.length then ds[i - off]? else cs[i]?
  | 0, [], cs, r, h => by
    simp only [setO, Option.some.injEq] at h; subst h
    exact ⟨rfl, by simp, fun i => by rw [if_neg (by simp)]⟩
  | 0, d :: ds, c :: cs, r, h => by
    simp only [setO] at h
    cases hq : setO 0 ds cs with
    | none => rw [hq] at h; cases h
    | some q =>
      rw [hq] at h; cases h
      obtain ⟨h1, h2, h3⟩ := setO_spec 0 ds cs q hq
      refine ⟨by simp [h1], by simp at h2 ⊢; omega, fun i => ?_⟩
      cases i with
      | zero => simp
      | succ i =>
        rw [List.getElem?_cons_succ, h3 i]
        by_cases hi : i < ds.length
        · rw [if_pos ⟨Nat.zero_le _, by omega⟩, if_pos ⟨Nat.zero_le _, by simp; omega⟩]; simp
        · rw [if_neg (by omega), if_neg (by simp; omega)]; simp
  | 0, _ :: _, [], r, h => by simp [setO] at h
  | n + 1, ds, c :: cs, r, h => by
    simp only [setO] at h
    cases hq : setO n ds cs with
    | none => rw [hq] at h; cases h
    | some q =>
      rw [hq] at h; cases h
      obtain ⟨h1, h2, h3⟩ := setO_spec n ds cs q hq
      refine ⟨by simp [h1], by simp at h2 ⊢; omega, fun i => ?_⟩
      cases i with
      | zero => rw [if_neg (by omega)]; simp
      | succ i =>
        rw [List.getElem?_cons_succ, h3 i]
        by_cases hi : n ≤ i ∧ i < n + ds.length
        · rw [if_pos hi, if_pos (by omega), show i + 1 - (n + 1) = i - n from by omega]
        · rw [if_neg hi, if_neg (by omega)]; simp
  | n + 1, ds, [], r, h => by simp [setO] at h

def clO : Dv → Option (List Dv)
  | .ag ds => some ds
  | .tu _ => none
  | d => some [d]
def leafAll (ds : List Dv) : Bool := ds.all leaf
theorem clO_reps {T : Nat → Prop} {w : World} {d : Dv} {v : Value} {ds : List Dv} (h : Rep T w d v) (hc : clO d = some ds) : v.cells.size = ds.length ∧ (∀ x ∈ ds, leaf x = true) ∧ (∀ (i : Nat) (d : Dv) (u : Value), ds[i]? = some d → v.cells[i]? = some u → Rep T w d u) ∧ ∀ u ∈ v.cells, u.oneCell' = true := by
  have one : ∀ (d : Dv) (v : Value), Rep T w d v → leaf d = true → ds = [d] → v.cells.size = ds.length ∧ (∀ x ∈ ds, leaf x = true) ∧ (∀ (i : Nat) (d : Dv) (u : Value), ds[i]? = some d → v.cells[i]? = some u → Rep T w d u) ∧ ∀ u ∈ v.cells, u.oneCell' = true := by
    intro d v hr hl he
    subst he
    have h1 := hr.one hl
    have hv : v.cells = #[v] := by cases v <;> first | rfl | simp [Value.oneCell'] at h1
    rw [hv]
    refine ⟨rfl, by simpa using hl, fun i d' u hd hu => ?_, by simpa using h1⟩
    cases i with
    | zero => simp at hd hu; subst hd hu; exact hr
    | succ i => simp at hd
  cases d with
  | ag es =>
    cases hc
    generalize hq : Dv.ag ds = q at h
    cases h with
    | ag h1 h2 h3 =>
      cases hq
      refine ⟨by simp [Value.cells, h1], h2, fun i d u hd hu => h3 i d u hd (by simpa [Value.cells] using hu), fun u hu => ?_⟩
      obtain ⟨i, hi, rfl⟩ := Array.mem_iff_getElem.1 hu
      simp only [Value.cells, List.size_toArray] at hi
      have hd := List.getElem?_eq_getElem (show i < ds.length by omega)
      exact (h3 i _ _ hd (List.getElem?_eq_getElem hi)).one (h2 _ (List.getElem_mem _))
    | _ => cases hq
  | tu es => cases hc
  | im u =>
    have hl : leaf (.im u) = true := by
      have := Rep.im_inv h; subst this
      cases h <;> simp_all [leaf]
    exact one _ _ h hl (by simp only [clO, Option.some.injEq] at hc; exact hc.symm)
  | sl xs => exact one _ _ h rfl (by simp only [clO, Option.some.injEq] at hc; exact hc.symm)
  | fn f a b => exact one _ _ h rfl (by simp only [clO, Option.some.injEq] at hc; exact hc.symm)

/-! ### 12. Struct literals -/
def ofV : Value → Dv
  | .slice none 0 _ => .sl []
  | v => .im v
theorem ofV_rep (T : Nat → Prop) (w : World) {v : Value} (h : v.oneCell' = true) : Rep T w (ofV v) v := by
  unfold ofV; split
  · exact .sl0
  · exact .im h
theorem ofV_leaf {v : Value} (h : v.oneCell' = true) : leaf (ofV v) = true := by
  unfold ofV; split
  · rfl
  · exact h
def zeroD (P : Program) (t : TypeId) : Option (List Dv) := match P.info? t with
  | some i => match i.zero with
    | some v => if v.cells.all (·.oneCell') = true then some (v.cells.toList.map ofV) else none
    | none => none
  | none => none
def placesB (P : Program) (t : TypeId) : Option (List (Nat × Nat)) := match P.underlying t with
  | some (.struct fs) => fs.toList.mapM (fun f => (P.info? f.type).map fun i => (f.offset, i.size))
  | _ => none
def fillO (pl : Nat → Option (Nat × Nat)) : List Dv → List (Nat × Dv) → Option (List Dv)
  | cs, [] => some cs
  | cs, (i, d) :: rest => match pl i, clO d with
    | some (off, size), some ds => if ds.length = size then (match setO off ds cs with
      | some q => fillO pl q rest
      | none => none) else none
    | _, _ => none
def partsD (σ : Sg) : List (Nat × Operand) → Option (List (Nat × Dv))
  | [] => some []
  | (i, x) :: rest => match evS σ x, partsD σ rest with
    | some (.d d), some q => some ((i, wk d) :: q)
    | _, _ => none

theorem fold_set : ∀ (vs : List Value) (k off : Nat) (cells : Array Value), off + k + vs.length ≤ cells.size →
    ((vs.zipIdx k).foldl (fun cs (x : Value × Nat) => cs.setIfInBounds (off + x.2) x.1) cells).size = cells.size ∧
    ∀ i, ((vs.zipIdx k).foldl (fun cs (x : Value × Nat) => cs.setIfInBounds (off + x.2) x.1) cells)[i]? = if off + k ≤ i ∧ i < off + k + vs.length then vs[i - (off + k)]? else cells[i]?
  | [], k, off, cells, h => ⟨rfl, fun i => by simp only [List.zipIdx_nil, List.foldl_nil]; rw [if_neg (by simp <;> omega)]⟩
  | v :: vs, k, off, cells, h => by
    simp only [List.zipIdx_cons, List.foldl_cons]
    have hs : off + (k + 1) + vs.length ≤ (cells.setIfInBounds (off + k) v).size := by simp at h ⊢; omega
    obtain ⟨h1, h2⟩ := fold_set vs (k + 1) off (cells.setIfInBounds (off + k) v) hs
    refine ⟨by rw [h1]; simp, fun i => ?_⟩
    rw [h2 i]
    by_cases h3 : i = off + k
    · subst h3
      rw [if_neg (by omega), if_pos (by simp)]
      simp only [List.length_cons] at h
      simp [Array.getElem?_setIfInBounds]
      try omega
    · by_cases h4 : off + (k + 1) ≤ i ∧ i < off + (k + 1) + vs.length
      · rw [if_pos h4, if_pos (by simp; omega)]
        obtain ⟨j, hj⟩ : ∃ j, i - (off + k) = j + 1 := ⟨i - (off + k) - 1, by omega⟩
        rw [hj, List.getElem?_cons_succ, show i - (off + (k + 1)) = j from by omega]
      · rw [if_neg h4, if_neg (by simp; omega)]
        simp [Array.getElem?_setIfInBounds, Ne.symm h3]

theorem fill_reps {T : Nat → Prop} {w : World} {pl : Nat → Option (Nat × Nat)} : ∀ (ps : List (Nat × Dv)) (vs : List (Nat × Value)) (cs r : List Dv) (cells : Array Value), fillO pl cs ps = some r →
    ps.length = vs.length → (∀ (k : Nat) (p : Nat × Dv) (q : Nat × Value), ps[k]? = some p → vs[k]? = some q → p.1 = q.1 ∧ Rep T w p.2 q.2) →
    cells.size = cs.length → (∀ x ∈ cs, leaf x = true) → (∀ (i : Nat) (d : Dv) (u : Value), cs[i]? = some d → cells[i]? = some u → Rep T w d u) →
    ∃ cells', Instr.fill pl cells vs = some cells' ∧ cells'.size = r.length ∧ (∀ x ∈ r, leaf x = true) ∧ ∀ (i : Nat) (d : Dv) (u : Value), r[i]? = some d → cells'[i]? = some u → Rep T w d u
  | [], [], cs, r, cells, h, _, _, h1, h2, h3 => by
    simp only [fillO, Option.some.injEq] at h; subst h
    exact ⟨cells, rfl, h1, h2, h3⟩
  | [], _ :: _, _, _, _, _, hl, _, _, _, _ => by simp at hl
  | _ :: _, [], _, _, _, _, hl, _, _, _, _ => by simp at hl
  | (i, d) :: ps, (j, v) :: vs, cs, r, cells, h, hl, hp, h1, h2, h3 => by
    obtain ⟨hij, hr⟩ := hp 0 _ _ rfl rfl
    simp only at hij hr
    subst hij
    simp only [fillO] at h
    cases hpl : pl i with
    | none => rw [hpl] at h; cases h
    | some os =>
      obtain ⟨off, size⟩ := os
      cases hcl : clO d with
      | none => rw [hpl, hcl] at h; cases h
      | some ds =>
        rw [hpl, hcl] at h
        simp only at h
        split at h
        · rename_i hsz
          cases hq : setO off ds cs with
          | none => rw [hq] at h; cases h
          | some q =>
            rw [hq] at h
            simp only at h
            obtain ⟨c1, c2, c3, c4⟩ := clO_reps hr hcl
            obtain ⟨s1, s2, s3⟩ := setO_spec off ds cs q hq
            have hf := fold_set v.cells.toList 0 off cells (by simp; omega)
            have harr : v.cells.zipIdx.foldl (fun cs (x : Value × Nat) => cs.setIfInBounds (off + x.2) x.1) cells = (v.cells.toList.zipIdx 0).foldl (fun cs (x : Value × Nat) => cs.setIfInBounds (off + x.2) x.1) cells := by
              rw [← Array.foldl_toList]; simp
            obtain ⟨f1, f2⟩ := hf
            rw [← harr] at f1 f2
            obtain ⟨cells', k1, k2, k3, k4⟩ := fill_reps ps vs q r (v.cells.zipIdx.foldl (fun cs (x : Value × Nat) => cs.setIfInBounds (off + x.2) x.1) cells) h (by simpa using hl)
              (fun k p q hp' hq' => hp (k + 1) p q hp' hq') (by rw [f1, s1]; exact h1)
              (fun x hx => by
                obtain ⟨n, hn⟩ := List.mem_iff_getElem?.1 hx
                rw [s3 n] at hn
                split at hn
                · exact c2 x (List.mem_of_getElem? hn)
                · exact h2 x (List.mem_of_getElem? hn))
              (fun n d' u hd' hu' => by
                rw [s3 n] at hd'
                rw [f2 n] at hu'
                simp only [Nat.add_zero, Array.length_toList] at hu'
                rw [c1] at hu'
                split at hd'
                · rename_i hin
                  rw [if_pos hin] at hu'
                  exact c3 _ d' u hd' (by simpa using hu')
                · rename_i hin
                  rw [if_neg hin] at hu'
                  exact h3 n d' u hd' hu')
            refine ⟨cells', ?_, k2, k3, k4⟩
            simp only [Instr.fill, hpl]
            rw [if_neg (by simp; omega)]
            exact k1
        · cases h

section
variable {c : Cx} {N : Nat} {H : List (List Dv)} {σ : Sg} {dst : Option Tmp} {ty : TypeId} {pos : String} {after : Array Edge} {gd : Option (Nat × Bool)}

theorem partsD_reps {bs : List (Option Nat)} {w : World} {a : Act} : ∀ (xs : List (Nat × Operand)) (ps : List (Nat × Dv)), partsD σ xs = some ps →
    (∀ p ∈ xs, ∀ s, evS σ p.2 = some s → SRep c.T bs w s (a.eval p.2)) → ps.length = xs.length ∧
      ∀ (k : Nat) (p : Nat × Dv) (q : Nat × Value), ps[k]? = some p → (xs.map fun (i, x) => (i, a.eval x))[k]? = some q → p.1 = q.1 ∧ Rep (TT c.T bs) w p.2 q.2
  | [], ps, h, _ => by cases h; exact ⟨rfl, by simp⟩
  | (i, x) :: xs, ps, h, hx => by
    simp only [partsD] at h
    cases h1 : evS σ x with
    | none => rw [h1] at h; cases h
    | some s =>
      cases h2 : partsD σ xs with
      | none => rw [h1, h2] at h; cases s <;> cases h
      | some q =>
        rw [h1, h2] at h
        cases s with
        | d d =>
          cases h
          have hr := hx (i, x) List.mem_cons_self _ h1
          obtain ⟨hl, hrs⟩ := partsD_reps xs q h2 (fun p hp => hx p (List.mem_cons_of_mem _ hp))
          refine ⟨by simp [hl], fun k p' q' hp' hq' => ?_⟩
          cases k with
          | zero => simp at hp' hq'; subst hp' hq'; exact ⟨rfl, Rep.wk hr⟩
          | succ k => exact hrs k p' q' (by simpa using hp') (by simpa using hq')
        | p b o => cases h
        | e ds => cases h
        | r b n sz => cases h
        | u => cases h

theorem built_run {P : Program} {t : TypeId} {z : List Dv} {pl : List (Nat × Nat)} (hz : zeroD P t = some z) (hp : placesB P t = some pl) {T : Nat → Prop} {w : World} {ps : List (Nat × Dv)} {vs : List (Nat × Value)} {r : List Dv} (hf : fillO (pl[·]?) z ps = some r)
    (hl : ps.length = vs.length) (hr : ∀ (k : Nat) (p : Nat × Dv) (q : Nat × Value), ps[k]? = some p → vs[k]? = some q → p.1 = q.1 ∧ Rep T w p.2 q.2) :
    ∃ cells, (Instr.build t vs.toArray).run P w = .ok (.agg cells) w ∧ Rep T w (.ag r) (.agg cells) := by
  unfold zeroD at hz
  cases hi : P.info? t with
  | none => rw [hi] at hz; cases hz
  | some i =>
    rw [hi] at hz
    simp only at hz
    cases hzv : i.zero with
    | none => rw [hzv] at hz; cases hz
    | some zv =>
      rw [hzv] at hz
      simp only at hz
      split at hz
      · rename_i hone
        cases hz
        unfold placesB at hp
        split at hp
        · rename_i fs hu
          have hmem : ∀ u ∈ zv.cells, u.oneCell' = true := fun u hu' => by
            have := Array.all_eq_true_iff_forall_mem.1 hone; exact this u hu'
          obtain ⟨cells, k1, k2, k3, k4⟩ := fill_reps (T := T) (w := w) ps vs _ r zv.cells hf hl hr (by simp) (fun x hx => by
              obtain ⟨u, hu', rfl⟩ := List.mem_map.1 hx
              exact ofV_leaf (hmem u (by simpa using hu'))) (fun n d u hd hu' => by
              rw [List.getElem?_map] at hd
              have : zv.cells.toList[n]? = some u := by simpa using hu'
              rw [this] at hd
              cases hd
              exact ofV_rep T w (hmem u (Array.mem_of_getElem? hu')))
          have hb : P.built t vs.toArray.toList = some cells := by
            unfold Program.built
            rw [hi, hu]
            simp only [hzv, hp]
            rw [← k1]
            congr 1
            funext x
            simp
          refine ⟨cells, run_build w t vs.toArray cells hb, ?_⟩
          have := Rep.ag (T := T) (w := w) (ds := r) (vs := cells.toList) (by simp [k2]) k3 (fun i d v hd hv => k4 i d v hd (by simpa using hv))
          simpa using this
        · cases hp
      · cases hz

theorem XS.build {t : TypeId} {parts : Array (Nat × Operand)} {z r : List Dv} {pl : List (Nat × Nat)} {ps : List (Nat × Dv)} (hz : zeroD c.P t = some z) (hp : placesB c.P t = some pl) (hps : partsD σ parts.toList = some ps) (hf : fillO (pl[·]?) z ps = some r) :
    XS c ⟨dst, .build t parts, ty, pos, after, gd⟩ H σ (.d (.ag r)) := by
  refine XS.of_val fun bs a w hW hops => ?_
  obtain ⟨h1, h2⟩ := partsD_reps (a := a) (w := w) (bs := bs) (c := c) parts.toList ps hps (fun p hp' s hs => hops p.2 (by simp [Op.operands]; exact ⟨p.1, by simpa using hp'⟩) s hs)
  obtain ⟨cells, k1, k2⟩ := built_run hz hp hf (by simpa using h1) h2 (vs := parts.toList.map fun (i, x) => (i, a.eval x))
  refine ⟨.agg cells, ?_, k2⟩
  have harr : (parts.map fun (i, x) => (i, a.eval x)) = (parts.toList.map fun (i, x) => (i, a.eval x)).toArray := by apply Array.ext'; simp
  simp only [execOp]
  rw [harr]
  simp [k1]

/-! ### 13. New boxes; stores -/
/-- A new box behind all others. -/
theorem WI.push {bs : List (Option Nat)} {w : World} (hW : WI c bs H w) {cells : Array Value} {t : TypeId} {ds : List Dv} (hl : ds.length ≤ cells.size) (hlf : ∀ x ∈ ds, leaf x = true)
    (hr : ∀ (i : Nat) (d : Dv) (u : Value), ds[i]? = some d → cells[i]? = some u → Rep (TT c.T bs) w d u) :
    WI c (bs ++ [some w.heap.size]) (H ++ [ds]) { w with heap := w.heap.push (.cells cells t) } ∧
    (∀ s v, SRep c.T bs w s v → SRep c.T (bs ++ [some w.heap.size]) { w with heap := w.heap.push (.cells cells t) } s v) := by
  have hold : ∀ g, g < w.heap.size → (w.heap.push (.cells cells t))[g]? = w.heap[g]? := fun g hg => by
    rw [Array.getElem?_push]; rw [if_neg (by omega)]
  have hrep : ∀ d v, Rep (TT c.T bs) w d v → Rep (TT c.T (bs ++ [some w.heap.size])) { w with heap := w.heap.push (.cells cells t) } d v := fun d v h =>
    h.mono (fun g hg hT => by
      rcases hT with h | h
      · exact .inl h
      · simp at h
        rcases h with h | h
        · exact .inr h
        · omega) (fun g hg _ => hold g hg)
  refine ⟨⟨hW.os, hW.tape, hW.output, by simp; have := hW.size; omega, fun g hg hn => (hold g (Nat.lt_of_lt_of_le hg hW.size)).trans (hW.old g hg hn), hW.told, fun i g h => ?_, fun i g h => ?_, fun g h => ?_, fun i j g h1 h2 => ?_, by simp [hW.len],
    fun g hg vs t' hv => ?_, fun i g ds' h1 h2 => ?_⟩, fun s v hs => ?_⟩
  · rcases Nat.lt_or_ge i bs.length with hi | hi
    · rw [List.getElem?_append_left hi] at h
      exact hW.own i g h
    · rw [List.getElem?_append_right hi] at h
      have : i - bs.length = 0 := by
        rcases Nat.eq_zero_or_pos (i - bs.length) with h0 | h0
        · exact h0
        · rw [List.getElem?_eq_none (by simp; omega)] at h; cases h
      rw [this] at h; simp at h; subst h
      refine .inr ⟨?_, hW.size⟩
      rcases Nat.lt_or_ge i c.b0.length with hlt | hge
      · have := hW.ext i _ (List.getElem?_eq_getElem hlt)
        have := (List.getElem?_eq_some_iff.1 this).1
        omega
      · exact hge
  · have := hW.ext i g h
    rw [List.getElem?_append_left (List.getElem?_eq_some_iff.1 this).1]; exact this
  · simp at h
    rcases h with h | h
    · have := hW.blt g h; simp; omega
    · subst h; simp
  · have key : ∀ i, (bs ++ [some w.heap.size])[i]? = some (some g) → (bs[i]? = some (some g)) ∨ (i = bs.length ∧ g = w.heap.size) := by
      intro i h
      rcases Nat.lt_or_ge i bs.length with hi | hi
      · rw [List.getElem?_append_left hi] at h; exact .inl h
      · rw [List.getElem?_append_right hi] at h
        have h0 : i - bs.length = 0 := by
          rcases Nat.eq_zero_or_pos (i - bs.length) with h0 | h0
          · exact h0
          · rw [List.getElem?_eq_none (by simp; omega)] at h; cases h
        rw [h0] at h; simp at h
        exact .inr ⟨by omega, h.symm⟩
    rcases key i h1 with k1 | k1 <;> rcases key j h2 with k2 | k2
    · exact hW.nd i j g k1 k2
    · have := hW.blt g (List.mem_of_getElem? k1); omega
    · have := hW.blt g (List.mem_of_getElem? k2); omega
    · omega
  · obtain ⟨vs', h1, h2⟩ := hW.erow g hg vs t' hv
    exact ⟨vs', (hold g (Array.getElem?_eq_some_iff.1 h1).1).trans h1, h2⟩
  · rcases Nat.lt_or_ge i bs.length with hi | hi
    · rw [List.getElem?_append_left hi] at h1
      rw [List.getElem?_append_left (by rw [hW.len]; exact hi)] at h2
      obtain ⟨vs, t', k1, k2, k3, k4⟩ := hW.box i g ds' h1 h2
      exact ⟨vs, t', (hold g (Array.getElem?_eq_some_iff.1 k1).1).trans k1, k2, k3, fun j d v hd hv => hrep d v (k4 j d v hd hv)⟩
    · rw [List.getElem?_append_right hi] at h1
      rw [List.getElem?_append_right (by rw [hW.len]; exact hi), hW.len] at h2
      have h0 : i - bs.length = 0 := by
        rcases Nat.eq_zero_or_pos (i - bs.length) with h0 | h0
        · exact h0
        · rw [List.getElem?_eq_none (by simp; omega)] at h1; cases h1
      rw [h0] at h1 h2; simp at h1 h2
      subst h1 h2
      exact ⟨cells, t, by simp, hl, hlf, fun j d v hd hv => hrep d v (hr j d v hd hv)⟩
  · cases s with
    | d x => exact hrep x v hs
    | p b o =>
      obtain ⟨g, hb, hv⟩ := hs
      exact ⟨g, by rw [List.getElem?_append_left (List.getElem?_eq_some_iff.1 hb).1]; exact hb, hv⟩
    | e ds' =>
      obtain ⟨g, off, cs, t', fr, hv, hh, hn, hlf', hr'⟩ := hs
      have hg := (Array.getElem?_eq_some_iff.1 hh).1
      refine ⟨g, off, cs, t', fr, hv, (hold g hg).trans hh, fun hT => ?_, hlf', fun j d hd => ?_⟩
      · rcases hT with h | h
        · exact hn (.inl h)
        · simp at h
          rcases h with h | h
          · exact hn (.inr h)
          · omega
      · obtain ⟨u, hu, hr''⟩ := hr' j d hd
        exact ⟨u, hu, hrep d u hr''⟩
    | r b n sz =>
      rcases hs with ⟨h1, h2, h3⟩ | ⟨g, cp, cs, t', hb, hv, hn, hh, hs'⟩
      · exact .inl ⟨h1, h2, by rw [List.getElem?_append_left (List.getElem?_eq_some_iff.1 h3).1]; exact h3⟩
      exact .inr ⟨g, cp, cs, t', by rw [List.getElem?_append_left (List.getElem?_eq_some_iff.1 hb).1]; exact hb, hv, hn, (hold g (Array.getElem?_eq_some_iff.1 hh).1).trans hh, hs'⟩
    | u => trivial

variable {ops : Array Oper} {i : Nat} {l : List Nat} {Q : Sg → List (List Dv) → Prop}

/-- What a new block's slot reads as. -/
theorem AO.new {o : Oper} {ds : List Dv} {r : Sv} (ho : ops[i]? = some o) (hg : o.guard = none) (hd : dstOk N o.dst = true)
    (hrun : ∀ (bs : List (Option Nat)) (a : Act) (w : World), WI c bs H w → (∀ x ∈ o.op.operands.toList, ∀ s, evS σ x = some s → SRep c.T bs w s (a.eval x)) → ∃ (cells : Array Value) (t : TypeId) (v : Value),
      (execOp a.eval o).run c.P w = .ok (.value v) { w with heap := w.heap.push (.cells cells t) } ∧ ds.length ≤ cells.size ∧ (∀ x ∈ ds, leaf x = true) ∧
      (∀ (i : Nat) (d : Dv) (u : Value), ds[i]? = some d → cells[i]? = some u → Rep (TT c.T bs) w d u) ∧
      SRep c.T (bs ++ [some w.heap.size]) { w with heap := w.heap.push (.cells cells t) } r v)
    (h : AO c N ops l Q (put σ o.dst r) (H ++ [ds])) : AO c N ops (i :: l) Q σ H := by
  refine ⟨fun R hR a w ⟨bs, hW, hN, hD, hs⟩ => ?_⟩
  rw [wpOps_cons]
  simp only [wpOp, ho, Region.wanted, hg, if_true]
  obtain ⟨cells, t, v, h1, h2, h3, h4, h5⟩ := hrun bs a w hW (fun x _ s he => ev_rep hs x s he)
  obtain ⟨hW', hS'⟩ := hW.push (t := t) h2 h3 h4
  refine .inl ?_
  unfold Oper.wp
  rw [h1]
  refine h.out R hR _ _ ⟨_, hW', by rw [Act.put_size]; exact hN, by rw [Act.put_defers']; exact hD, slots_put hN hd h5 (fun t s ht => hS' s _ (hs t s ht))⟩

theorem newVar_run {P : Program} {t : TypeId} {v : Value} {w : World} : (newVar t v).run P w = .ok ⟨w.heap.size, 0, none⟩ { w with heap := w.heap.push (.cells v.cells t) } := by
  simp [newVar, newRow, newObj, Sem.run_bind, Sem.run]

/-- A struct (or a number) that comes to lie in memory. -/
theorem AO.box {x : Operand} {t : TypeId} {d : Dv} {ds : List Dv} (ho : ops[i]? = some ⟨dst, .box t x, ty, pos, after, none⟩) (hd : dstOk N dst = true) (hx : evS σ x = some (.d d)) (hc : clO (wk d) = some ds)
    (h : AO c N ops l Q (put σ dst (.p H.length 0)) (H ++ [ds])) : AO c N ops (i :: l) Q σ H := by
  refine AO.new ho rfl hd (fun bs a w hW hops => ?_) h
  have hr := Rep.wk (hops x (by simp [Op.operands]) _ hx)
  obtain ⟨c1, c2, c3, c4⟩ := clO_reps hr hc
  refine ⟨(a.eval x).cells, t, .pointer (some ⟨w.heap.size, 0, none⟩), ?_, by omega, c2, c3, w.heap.size, ?_, rfl⟩
  · simp [execOp, Instr.box, newVar_run]
  · rw [hW.len]; simp
theorem AO.alloc {t : TypeId} {z : List Dv} (ho : ops[i]? = some ⟨dst, .alloc t, ty, pos, after, none⟩) (hd : dstOk N dst = true) (hz : zeroD c.P t = some z)
    (h : AO c N ops l Q (put σ dst (.p H.length 0)) (H ++ [z])) : AO c N ops (i :: l) Q σ H := by
  refine AO.new ho rfl hd (fun bs a w hW hops => ?_) h
  unfold zeroD at hz
  cases hi : c.P.info? t with
  | none => rw [hi] at hz; cases hz
  | some q =>
    rw [hi] at hz
    simp only at hz
    cases hzv : q.zero with
    | none => rw [hzv] at hz; cases hz
    | some zv =>
      rw [hzv] at hz
      simp only at hz
      split at hz
      · rename_i hone
        cases hz
        have hmem : ∀ u ∈ zv.cells, u.oneCell' = true := fun u hu' => (Array.all_eq_true_iff_forall_mem.1 hone) u hu'
        refine ⟨zv.cells, t, .pointer (some ⟨w.heap.size, 0, none⟩), ?_, by simp, fun x hx => ?_, fun n d u hd hu' => ?_, w.heap.size, ?_, rfl⟩
        · simp [execOp, Instr.alloc, zeroValue, typeInfo, hi, hzv, newVar_run]
        · obtain ⟨u, hu', rfl⟩ := List.mem_map.1 hx
          exact ofV_leaf (hmem u (by simpa using hu'))
        · rw [List.getElem?_map] at hd
          have : zv.cells.toList[n]? = some u := by simpa using hu'
          rw [this] at hd; cases hd
          exact ofV_rep _ w (hmem u (Array.mem_of_getElem? hu'))
        · rw [hW.len]; simp
      · cases hz

def setAt : Nat → List Dv → List (List Dv) → Option (List (List Dv))
  | 0, ds, _ :: Hs => some (ds :: Hs)
  | n + 1, ds, h :: Hs => match setAt n ds Hs with
    | some q => some (h :: q)
    | none => none
  | _, _, [] => none
theorem setAt_spec : ∀ (b : Nat) (ds : List Dv) (H H' : List (List Dv)), setAt b ds H = some H' → b < H.length ∧ H' = H.set b ds
  | 0, ds, h :: Hs, H', e => by simp [setAt] at e; subst e; simp
  | n + 1, ds, h :: Hs, H', e => by
    simp only [setAt] at e
    cases hq : setAt n ds Hs with
    | none => rw [hq] at e; cases e
    | some q =>
      rw [hq] at e; cases e
      obtain ⟨h1, h2⟩ := setAt_spec n ds Hs q hq
      exact ⟨by simp; omega, by rw [h2]; rfl⟩
  | 0, _, [], _, e => by simp [setAt] at e
  | _ + 1, _, [], _, e => by simp [setAt] at e

/-- A box's cells are others. -/
theorem WI.reset {bs : List (Option Nat)} {w : World} (hW : WI c bs H w) {b g : Nat} (hb : bs[b]? = some (some g)) {cs cs' : Array Value} {t : TypeId} (hg : w.heap[g]? = some (.cells cs t (0, 0))) (hsz : cs'.size = cs.size) {ds : List Dv}
    (hl : ds.length ≤ cs'.size) (hlf : ∀ x ∈ ds, leaf x = true) (hr : ∀ (i : Nat) (d : Dv) (u : Value), ds[i]? = some d → cs'[i]? = some u → Rep (TT c.T bs) w d u) :
    WI c bs (H.set b ds) (w.setRow g cs') ∧ WExt bs w (w.setRow g cs') := by
  have hgb : some g ∈ bs := List.mem_of_getElem? hb
  have hother : ∀ g', g' ≠ g → (w.setRow g cs').heap[g']? = w.heap[g']? := fun g' hn => by
    simp only [World.setRow, Array.getElem?_modify]; rw [if_neg (Ne.symm hn)]
  have hthis : (w.setRow g cs').heap[g]? = some (.cells cs' t (0, 0)) := setRow_heap w g cs cs' t _ hg
  have hsize : (w.setRow g cs').heap.size = w.heap.size := by simp [World.setRow]
  have hE : WExt bs w (w.setRow g cs') := ⟨by omega, fun g' hg' hn => hother g' (fun e => hn (e ▸ hgb)), fun g' hg' vs t' hv => by
    by_cases he : g' = g
    · subst he
      rw [hg] at hv; cases hv
      exact ⟨cs', hthis, hsz⟩
    · exact ⟨vs, (hother g' he).trans hv, rfl⟩⟩
  refine ⟨⟨hW.os, hW.tape, hW.output, by rw [hsize]; exact hW.size, fun g' hg' hn => ?_, hW.told, hW.own, hW.ext, fun g' hg' => by rw [hsize]; exact hW.blt g' hg', hW.nd, by simp [hW.len], fun g' hg' vs t' hv => ?_, fun j g' ds' h1 h2 => ?_⟩, hE⟩
  · refine (hother g' (fun e => ?_)).trans (hW.old g' hg' hn)
    subst e
    rcases hW.own b g' hb with h | h
    · exact hn (List.mem_of_getElem? h)
    · omega
  · obtain ⟨vs', k1, k2⟩ := hW.erow g' hg' vs t' hv
    by_cases he : g' = g
    · subst he
      rw [hg] at k1; cases k1
      exact ⟨cs', hthis, hsz.trans k2⟩
    · exact ⟨vs', (hother g' he).trans k1, k2⟩
  · by_cases he : j = b
    · subst he
      rw [hb] at h1; cases h1
      rw [List.getElem?_set_self (by have := (List.getElem?_eq_some_iff.1 hb).1; rw [hW.len]; exact this)] at h2
      cases h2
      exact ⟨cs', t, hthis, hl, hlf, fun k d v hd hv => (hr k d v hd hv).ext hE⟩
    · rw [List.getElem?_set_ne (Ne.symm he)] at h2
      obtain ⟨vs, t', k1, k2, k3, k4⟩ := hW.box j g' ds' h1 h2
      have hne : g' ≠ g := fun e => he (by subst e; exact hW.nd j b g' h1 hb)
      exact ⟨vs, t', (hother g' hne).trans k1, k2, k3, fun k d v hd hv => (k4 k d v hd hv).ext hE⟩

theorem AO.store {t : TypeId} {p x : Operand} {b o n : Nat} {d : Dv} {ds cl ds' : List Dv} {H' : List (List Dv)} (ho : ops[i]? = some ⟨none, .store t p x, ty, pos, after, none⟩) (hp : evS σ p = some (.p b o)) (hx : evS σ x = some (.d d))
    (hc : clO (wk d) = some cl) (hn : szB c.P t = some n) (hcn : cl.length = n) (hH : H[b]? = some ds) (hs' : setO o cl ds = some ds') (hH' : setAt b ds' H = some H') (h : AO c N ops l Q σ H') : AO c N ops (i :: l) Q σ H := by
  refine ⟨fun R hR a w ⟨bs, hW, hN, hD, hs⟩ => ?_⟩
  rw [wpOps_cons]
  simp only [wpOp, ho, Region.wanted, if_true]
  obtain ⟨g, hb, hv⟩ := sv_p (ev_rep hs p _ hp)
  have hr := Rep.wk (ev_rep hs x _ hx)
  obtain ⟨c1, c2, c3, c4⟩ := clO_reps hr hc
  obtain ⟨cs, t', k1, k2, k3, k4⟩ := hW.box b g ds hb hH
  obtain ⟨s1, s2, s3⟩ := setO_spec o cl ds ds' hs'
  obtain ⟨_, rfl⟩ := setAt_spec b ds' H H' hH'
  have hfit : o + 0 + (a.eval x).cells.toList.length ≤ cs.size := by simp; omega
  have hst := run_storeCells_at (P := c.P) g o t' (a.eval x).cells.toList 0 cs w k1 hfit (fun v hv => c4 v (by simpa using hv))
  refine .inl ?_
  have hrun : (execOp a.eval ⟨none, .store t p x, ty, pos, after, none⟩).run c.P w = .ok .skip (w.setRow g (cs.toList.take (o + 0) ++ (a.eval x).cells.toList ++ cs.toList.drop (o + 0 + (a.eval x).cells.toList.length)).toArray) := by
    simp only [execOp, hv, Instr.storeAt, Instr.sureAddr, storeVar, Sem.run_bind, Sem.run_pure, Result.andThen_ok, size_run hn w]
    rw [if_neg (by omega)]
    simp only [Sem.run_bind, Sem.run_pure, Result.andThen_ok, hst]
  unfold Oper.wp
  rw [hrun]
  simp only [Oper.upon]
  have hlen : ((cs.toList.take (o + 0) ++ (a.eval x).cells.toList ++ cs.toList.drop (o + 0 + (a.eval x).cells.toList.length)).toArray).size = cs.size := by
    simp at hfit ⊢; omega
  have hget : ∀ j, ((cs.toList.take (o + 0) ++ (a.eval x).cells.toList ++ cs.toList.drop (o + 0 + (a.eval x).cells.toList.length)).toArray)[j]? = if o ≤ j ∧ j < o + cl.length then (a.eval x).cells[j - o]? else cs[j]? := by
    intro j
    simp only [Nat.add_zero, List.getElem?_toArray, Array.length_toList, c1]
    rw [List.append_assoc]
    have htl : (List.take o cs.toList).length = o := by simp; simp at hfit; omega
    rcases Nat.lt_or_ge j o with h1 | h1
    · rw [List.getElem?_append_left (by omega), if_neg (by omega), List.getElem?_take_of_lt h1]; simp
    · rw [List.getElem?_append_right (by omega), htl]
      rcases Nat.lt_or_ge j (o + cl.length) with h2 | h2
      · rw [if_pos ⟨h1, h2⟩, List.getElem?_append_left (by simp; omega)]; simp
      · rw [if_neg (by omega), List.getElem?_append_right (by simp; omega), List.getElem?_drop]
        simp only [Array.length_toList, c1]
        rw [show o + cl.length + (j - o - cl.length) = j from by omega]; simp
  obtain ⟨hW', hE⟩ := hW.reset hb k1 hlen (ds := ds') (by rw [hlen]; omega) (fun y hy => by
    obtain ⟨m, hm⟩ := List.mem_iff_getElem?.1 hy
    rw [s3 m] at hm
    split at hm
    · exact c2 y (List.mem_of_getElem? hm)
    · exact k3 y (List.mem_of_getElem? hm)) (fun m d' u hd' hu' => by
    rw [s3 m] at hd'
    rw [hget m] at hu'
    split at hd'
    · rename_i hin; rw [if_pos hin] at hu'; exact c3 _ d' u hd' hu'
    · rename_i hin; rw [if_neg hin] at hu'; exact k4 m d' u hd' hu')
  exact h.out R hR _ _ ⟨bs, hW', hN, hD, fun t s ht => (hs t s ht).ext hE⟩
end
end Go.Proofs.Ytgafdhpagifpcaa.Av
