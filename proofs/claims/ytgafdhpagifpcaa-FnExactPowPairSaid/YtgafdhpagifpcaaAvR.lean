/-
  OWN WORK. The calculus: a law's row: its arguments, read as abstract values.
-/
import Derived.Test.YtgafdhpagifpcaaAv6
import Derived.SizedLaws
import Derived.OpenShut
import Derived.ChangeOld
import Derived.ProofKit
namespace Go.Proofs.Ytgafdhpagifpcaa.Av
open Go Go.RowKit Go.ChangeShapes Go.WideShapes Go.ChangeAt
set_option linter.unusedVariables false
set_option linter.unusedSimpArgs false

inductive Ck where
  | int (k : IntKind)
  | bool
  | str
  | sl (es : List Ck)

/-- An abstract value of that kind of cell. -/
inductive Ok : Ck → Dv → Prop
  | int {k : IntKind} {n : Int} : (Lit.int k n).wf = true → Ok (.int k) (.im (.int k n))
  | bool {b : Bool} : Ok .bool (.im (.bool b))
  | str {s : ByteArray} : s.size ≤ maxLen → Ok .str (.im (.string s))
  | sl {es : List Ck} {xs : List (List Dv)} : xs.length ≤ maxLen → (∀ x ∈ xs, x.length = es.length) → (∀ x ∈ xs, ∀ (i : Nat) (e : Ck) (d : Dv), es[i]? = some e → x[i]? = some d → Ok e d) → Ok (.sl es) (.sl xs)
def Oks (ks : List Ck) (ds : List Dv) : Prop := ds.length = ks.length ∧ ∀ (i : Nat) (e : Ck) (d : Dv), ks[i]? = some e → ds[i]? = some d → Ok e d
theorem Ok.leaf {k : Ck} {d : Dv} (h : Ok k d) : leaf d = true := by cases h <;> rfl

def flatF (g : TypeId → Option (List Ck)) (P : Program) : List Field → Nat → Option (List Ck)
  | [], _ => some []
  | f :: fs, o => match g f.type, flatF g P fs (o + P.cellsOf f.type) with
    | some ks, some r => if f.offset = o ∧ P.cellsOf f.type = ks.length then some (ks ++ r) else none
    | _, _ => none
def flat (P : Program) : Nat → TypeId → Option (List Ck)
  | 0, _ => none
  | n + 1, t => match P.underlying t with
    | some .bool => some [.bool]
    | some (.int k) => some [.int k]
    | some .string => some [.str]
    | some (.slice e) => match flat P n e with
      | some ks => if P.cellsOf e = ks.length ∧ 0 < ks.length then some [.sl ks] else none
      | none => none
    | some (.struct fs) => match flatF (flat P n) P fs.toList 0 with
      | some ks => if P.cellsOf t = ks.length then some ks else none
      | none => none
    | _ => none

section
variable {H : Type} {enc : TypeId × Value → H} {P : Program} {w : World} {base : Nat} {sp : Nat → Bool} {held : Bool}
def Nope : Nat → Prop := fun _ => False

theorem oks_append {k1 k2 : List Ck} {d1 d2 : List Dv} (h1 : Oks k1 d1) (h2 : Oks k2 d2) : Oks (k1 ++ k2) (d1 ++ d2) := by
  refine ⟨by simp [h1.1, h2.1], fun i e d he hd => ?_⟩
  rcases Nat.lt_or_ge i k1.length with h | h
  · rw [List.getElem?_append_left h] at he
    rw [List.getElem?_append_left (by rw [h1.1]; exact h)] at hd
    exact h1.2 i e d he hd
  · rw [List.getElem?_append_right h] at he
    rw [List.getElem?_append_right (by rw [h1.1]; exact h), h1.1] at hd
    exact h2.2 _ e d he hd

def OpenAt (enc : TypeId × Value → H) (P : Program) (w : World) (base : Nat) (sp : Nat → Bool) (held : Bool) (t : TypeId) (ks : List Ck) : Prop :=
  ∀ (m : Nat) (cs : List Value) (x : DataW H × List MemPlace), DataW.trod enc P w base sp held m t cs = some x → ∃ ds, Oks ks ds ∧ Reps Nope w ds cs

theorem open_fields {g : TypeId → Option (List Ck)} (hg : ∀ t ks, g t = some ks → OpenAt enc P w base sp held t ks) {m : Nat} {cs : List Value} : ∀ (fs : List Field) (o : Nat) (ks : List Ck) (done : List Value), flatF g P fs o = some ks →
    (∀ f ∈ fs, ∃ x, DataW.trod enc P w base sp held m f.type ((cs.drop f.offset).take (P.cellsOf f.type)) = some x) → cs.length = o + ks.length → ∃ ds, Oks ks ds ∧ Reps Nope w ds (cs.drop o)
  | [], o, ks, done, h, _, hl => by
    cases h
    simp at hl
    refine ⟨[], ⟨rfl, by simp⟩, ?_⟩
    rw [List.drop_eq_nil_of_le (by omega)]
    exact ⟨rfl, by simp⟩
  | f :: fs, o, ks, done, h, hf, hl => by
    simp only [flatF] at h
    cases h1 : g f.type with
    | none => rw [h1] at h; cases h
    | some k1 =>
      cases h2 : flatF g P fs (o + P.cellsOf f.type) with
      | none => rw [h1, h2] at h; cases h
      | some k2 =>
        rw [h1, h2] at h
        simp only at h
        split at h
        · rename_i hc
          cases h
          obtain ⟨x, hx⟩ := hf f List.mem_cons_self
          obtain ⟨d1, ho1, hr1⟩ := hg _ _ h1 m _ x hx
          obtain ⟨d2, ho2, hr2⟩ := open_fields hg fs _ k2 done h2 (fun f hf' => hf f (List.mem_cons_of_mem _ hf')) (by simp at hl; omega)
          refine ⟨d1 ++ d2, oks_append ho1 ho2, ?_⟩
          have := Reps.append hr1 hr2
          rw [hc.1] at this
          have e : cs.drop o = (cs.drop o).take (P.cellsOf f.type) ++ cs.drop (o + P.cellsOf f.type) := by
            rw [← List.drop_drop, List.take_append_drop]
          rw [e]; exact this
        · cases h

theorem cells?_get {a : Addr} {n : Nat} {cs : List Value} (h : w.cells? base a n = some cs) : cs.length = n ∧ ∀ (j : Nat) (v : Value), cs[j]? = some v → w.cell? (a.add j) = some v := by
  obtain ⟨_, hl, hc⟩ := World.cells?_some h
  exact ⟨hl, fun j v hv => (hc j (by have := (List.getElem?_eq_some_iff.1 hv).1; omega)).trans hv⟩

theorem cell_block {a : Addr} {v : Value} (h : w.cell? a = some v) : ∃ c t fr, w.heap[a.block]? = some (.cells c t fr) ∧ a.spot = none ∧ c[a.off]? = some v := by
  unfold World.cell? at h
  split at h
  · split at h
    · cases h
    · rename_i hs
      exact ⟨_, _, _, ‹_›, by simpa using hs, h⟩
  · cases h

theorem open_flat : ∀ (n : Nat) (t : TypeId) (ks : List Ck), flat P n t = some ks → OpenAt enc P w base sp held t ks
  | 0, t, ks, h => by simp [flat] at h
  | n + 1, t, ks, h => by
    intro m cs x hx
    simp only [flat] at h
    split at h
    · rename_i hu
      cases h
      cases m with
      | zero => simp [DataW.trod] at hx
      | succ m =>
        unfold DataW.trod at hx
        rw [hu] at hx
        split at hx <;> simp_all
        rename_i b
        exact ⟨[.im (.bool b)], ⟨rfl, fun i e d he hd => by
          cases i <;> simp at he hd
          subst he hd; exact .bool⟩, rfl, fun i d v hd hv => by
          cases i <;> simp at hd hv
          subst hd hv; exact .im rfl⟩
    · rename_i k hu
      cases h
      obtain ⟨n, rfl, _, hw⟩ := DataW.trod_int hu hx
      exact ⟨[.im (.int k n)], ⟨rfl, fun i e d he hd => by
        cases i <;> simp at he hd
        subst he hd; exact .int hw⟩, rfl, fun i d v hd hv => by
        cases i <;> simp at hd hv
        subst hd hv; exact .im rfl⟩
    · rename_i hu
      cases h
      obtain ⟨s, rfl, _, hw⟩ := DataW.trod_string hu hx
      exact ⟨[.im (.string s)], ⟨rfl, fun i e d he hd => by
        cases i <;> simp at he hd
        subst he hd; exact .str hw⟩, rfl, fun i d v hd hv => by
        cases i <;> simp at hd hv
        subst hd hv; exact .im rfl⟩
    · rename_i e hu
      cases hk : flat P n e with
      | none => rw [hk] at h; cases h
      | some es =>
        rw [hk] at h
        simp only at h
        split at h
        · rename_i hc
          cases h
          have ih := open_flat n e es hk
          rcases DataW.trod_slice hu hx with ⟨rfl, _⟩ | ⟨a, len, cap, elems, rest, m', _, rfl, _, _, hl, hm, hlen, hel, _⟩
          · exact ⟨[.sl []], ⟨rfl, fun i e d he hd => by
              cases i <;> simp at he hd
              subst he hd; exact .sl (by simp) (by simp) (by simp)⟩, rfl, fun i d v hd hv => by
              cases i <;> simp at hd hv
              subst hd hv; exact .sl0⟩
          · have each : ∀ i, i < len → ∃ (q : List Dv × List Value), Oks es q.1 ∧ Reps Nope w q.1 q.2 ∧ q.2.length = es.length ∧ ∀ (j : Nat) (v : Value), q.2[j]? = some v → w.cell? ((a.add (i * es.length)).add j) = some v := by
              intro i hi
              have hy := hel i hi
              rw [List.getElem?_eq_getElem (by omega), Option.bind_eq_some_iff] at hy
              obtain ⟨cs1, h1, h2⟩ := hy
              obtain ⟨ds, ho, hr⟩ := ih _ _ _ h2
              rw [hc.1] at h1
              obtain ⟨g1, g2⟩ := cells?_get h1
              exact ⟨(ds, cs1), ho, hr, g1, g2⟩
            let f : Nat → List Dv × List Value := fun i => if hi : i < len then Classical.choose (each i hi) else ([], [])
            have hf : ∀ i, i < len → Oks es (f i).1 ∧ Reps Nope w (f i).1 (f i).2 ∧ (f i).2.length = es.length ∧ ∀ (j : Nat) (v : Value), (f i).2[j]? = some v → w.cell? ((a.add (i * es.length)).add j) = some v := by
              intro i hi
              have := Classical.choose_spec (each i hi)
              simp only [f, hi, dif_pos]
              exact this
            let xs := (List.range len).map fun i => (f i).1
            have hxl : xs.length = len := by simp [xs]
            have hxi : ∀ (i : Nat) (x : List Dv), xs[i]? = some x → i < len ∧ x = (f i).1 := by
              intro i x hx
              simp only [xs, List.getElem?_map, Option.map_eq_some_iff] at hx
              obtain ⟨k, hk, rfl⟩ := hx
              have := List.getElem?_eq_some_iff.1 hk
              obtain ⟨h1, h2⟩ := this
              simp at h1 h2
              subst h2
              exact ⟨h1, rfl⟩
            have hxm : ∀ x ∈ xs, ∃ i, i < len ∧ x = (f i).1 := fun x hx => by
              obtain ⟨i, hi⟩ := List.mem_iff_getElem?.1 hx
              exact ⟨i, hxi i x hi⟩
            refine ⟨[.sl xs], ⟨rfl, fun i e d he hd => ?_⟩, rfl, fun i d v hd hv => ?_⟩
            · cases i <;> simp at he hd
              subst he hd
              refine .sl (by omega) (fun x hx => ?_) (fun x hx i e d he hd => ?_)
              · obtain ⟨i, hi, rfl⟩ := hxm x hx; exact (hf i hi).1.1
              · obtain ⟨k, hk, rfl⟩ := hxm x hx; exact (hf k hk).1.2 i e d he hd
            · cases i <;> simp at hd hv
              subst hd hv
              rcases Nat.eq_zero_or_pos len with h0 | h0
              · have : xs = [] := List.eq_nil_of_length_eq_zero (by omega)
                rw [this, h0]; exact .sl0
              · have hv0 : (f 0).2[0]? = some ((f 0).2[0]'(by rw [(hf 0 h0).2.2.1]; exact hc.2)) := List.getElem?_eq_getElem _
                have hc0 := (hf 0 h0).2.2.2 0 _ hv0
                obtain ⟨cells, t', fr, hh, hsp, _⟩ := cell_block hc0
                obtain ⟨ab, ao, asp⟩ := a
                have hz : ((⟨ab, ao, asp⟩ : Addr).add (0 * es.length)).add 0 = ⟨ab, ao, asp⟩ := by simp [Addr.add]
                rw [hz] at hh hsp
                simp only at hsp; subst hsp
                have hcell : ∀ i j, i < len → j < es.length → cells[ao + i * es.length + j]? = some ((f i).2.getD j undef) := by
                  intro i j hi hj
                  have hlt : j < (f i).2.length := by rw [(hf i hi).2.2.1]; exact hj
                  have := (hf i hi).2.2.2 j _ (List.getElem?_eq_getElem hlt)
                  rw [add_at, add_at] at this
                  simp only [World.cell?, hh] at this
                  rw [List.getD_eq_getElem?_getD, List.getElem?_eq_getElem hlt]
                  simpa using this
                have key := Rep.sl1 (T := Nope) (w := w) (xs := xs) (g := ab) (off := ao) (c := cap) (sz := es.length) (cells := cells) (e := t') (fr := fr) (u := fun i j => (f i).2.getD j undef)
                  (by omega) (by omega) hh (fun h => h) (fun x hx => by obtain ⟨i, hi, rfl⟩ := hxm x hx; exact (hf i hi).1.1)
                  (fun x hx d hd => by
                    obtain ⟨i, hi, rfl⟩ := hxm x hx
                    obtain ⟨j, hj⟩ := List.mem_iff_getElem?.1 hd
                    have hlt := (List.getElem?_eq_some_iff.1 hj).1
                    exact ((hf i hi).1.2 j _ d (List.getElem?_eq_getElem (by rw [← (hf i hi).1.1]; exact hlt)) hj).leaf)
                  (fun i j hi hj => hcell i j (by omega) hj)
                  (fun i x j d hx hd => by
                    obtain ⟨hi, rfl⟩ := hxi i x hx
                    have hlt := (List.getElem?_eq_some_iff.1 hd).1
                    have hlt' : j < (f i).2.length := by rw [(hf i hi).2.2.1, ← (hf i hi).1.1]; exact hlt
                    refine (hf i hi).2.1.2 j d _ hd ?_
                    rw [List.getD_eq_getElem?_getD, List.getElem?_eq_getElem hlt']
                    rfl)
                rw [hxl] at key
                exact key
        · cases h
    · rename_i fs hu
      cases hk : flatF (flat P n) P fs.toList 0 with
      | none => rw [hk] at h; cases h
      | some r =>
        rw [hk] at h
        simp only at h
        split at h
        · rename_i hc
          cases h
          obtain ⟨xs, m', _, _, hl, hlen, hf⟩ := DataW.trod_struct hu hx
          obtain ⟨ds, h1, h2⟩ := open_fields (fun t ks h => open_flat n t ks h) (m := m') (cs := cs) fs.toList 0 _ [] hk (fun f hf' => by
            obtain ⟨i, hi⟩ := List.mem_iff_getElem?.1 hf'
            have hlt := (List.getElem?_eq_some_iff.1 hi).1
            have := hf i f (by simpa using hi)
            exact ⟨xs[i]'(by simp at hlt; omega), this.trans (List.getElem?_eq_getElem _)⟩) (by omega)
          exact ⟨ds, h1, by simpa using h2⟩
        · cases h
    · cases h

inductive Pk where
  | one (k : Ck)
  | ag (ks : List Ck)
def OkP : Pk → Dv → Prop
  | .one k, d => Ok k d
  | .ag ks, d => ∃ ds, d = .ag ds ∧ Oks ks ds
def parB (P : Program) (t : TypeId) : Option Pk := if rowB P t = true then (flat P 40 t).map .ag else match flat P 40 t with
  | some [k] => some (.one k)
  | _ => none
theorem open_par {t : TypeId} {k : Pk} (h : parB P t = some k) {v : Value} {d : DataW H} {ps : List MemPlace} {r : Reach} {b0 : Nat} (hv : Value.okWide P w r b0 t v) (hd : DataW.Trod enc P w base sp held t v d ps) : ∃ x, OkP k x ∧ Rep Nope w x v := by
  obtain ⟨m, hm⟩ := hd
  unfold parB at h
  split at h
  · rename_i hr
    simp only [Option.map_eq_some_iff] at h
    obtain ⟨ks, hks, rfl⟩ := h
    obtain ⟨ds, ho, hrep⟩ := open_flat 40 t ks hks m _ _ hm
    unfold rowB at hr
    have hagg : ∃ cs, v = .agg cs := by
      unfold Value.okWide at hv
      split at hr <;> simp_all
      · obtain ⟨cs, h, _⟩ := hv; exact ⟨cs, h⟩
      · obtain ⟨cs, h, _⟩ := hv; exact ⟨cs, h⟩
    obtain ⟨cs, rfl⟩ := hagg
    refine ⟨.ag ds, ⟨ds, rfl, ho⟩, ?_⟩
    have := Rep.ag (T := Nope) (w := w) (ds := ds) (vs := cs.toList) (by simpa [Value.cells] using hrep.1) (fun d hd => by
      obtain ⟨j, hj⟩ := List.mem_iff_getElem?.1 hd
      have hlt := (List.getElem?_eq_some_iff.1 hj).1
      exact (ho.2 j _ d (List.getElem?_eq_getElem (by rw [← ho.1]; exact hlt)) hj).leaf) (fun i d v hd hv => hrep.2 i d v hd (by simpa [Value.cells] using hv))
    simpa using this
  · rename_i hr
    split at h
    · rename_i k' hks
      cases h
      obtain ⟨ds, ho, hrep⟩ := open_flat 40 t _ hks m _ _ hm
      match ds, ho, hrep with
      | [d'], ho, hrep =>
        have hk := ho.2 0 _ _ rfl rfl
        have hl : v.cells.toList.length = 1 := by rw [← hrep.1]; rfl
        refine ⟨d', hk, ?_⟩
        have h0 := hrep.2 0 d' (v.cells.toList[0]'(by omega)) rfl (List.getElem?_eq_getElem _)
        cases v with
        | agg cs =>
          exfalso
          unfold rowB at hr
          unfold Value.okWide at hv
          cases hu : P.underlying t with
          | none => simp [hu, Cell.okWide, Cell.ok] at hv
          | some u => cases u <;> simp_all [Cell.okWide, Cell.ok]
        | _ => exact h0
      | [], ho, _ => simp [Oks] at ho
      | _ :: _ :: _, ho, _ => simp [Oks] at ho
    · cases h

inductive OkPs : List Pk → List Dv → Prop
  | nil : OkPs [] []
  | cons {k : Pk} {ks : List Pk} {d : Dv} {ds : List Dv} : OkP k d → OkPs ks ds → OkPs (k :: ks) (d :: ds)
def parsB (P : Program) : List TypeId → Option (List Pk)
  | [] => some []
  | t :: ts => match parB P t, parsB P ts with
    | some k, some ks => some (k :: ks)
    | _, _ => none
theorem reps_cons {T : Nat → Prop} {d : Dv} {v : Value} {ds : List Dv} {vs : List Value} (h : Rep T w d v) (hs : Reps T w ds vs) : Reps T w (d :: ds) (v :: vs) :=
  ⟨by simp [hs.1], fun i d' v' hd hv => by
    cases i with
    | zero => simp at hd hv; subst hd hv; exact h
    | succ i => simp at hd hv; exact hs.2 i d' v' hd hv⟩
theorem open_pars {r : Reach} {b0 : Nat} : ∀ (ts : List TypeId) (ks : List Pk) (vs : List Value) (ds : List (DataW H)) (ps : List MemPlace), parsB P ts = some ks → (∀ (j : Nat) t v, ts[j]? = some t → vs[j]? = some v → Value.okWide P w r b0 t v) →
    DataW.TrodAll enc P w base sp held ts vs ds ps → ∃ xs, OkPs ks xs ∧ Reps Nope w xs vs
  | [], ks, vs, ds, ps, h, hv, hA => by
    cases h
    cases vs with
    | nil => exact ⟨[], .nil, rfl, by simp⟩
    | cons v vs => cases ds <;> simp [DataW.TrodAll] at hA
  | t :: ts, ks, vs, ds, ps, h, hv, hA => by
    simp only [parsB] at h
    cases h1 : parB P t with
    | none => rw [h1] at h; cases h
    | some k =>
      cases h2 : parsB P ts with
      | none => rw [h1, h2] at h; cases h
      | some ks' =>
        rw [h1, h2] at h
        cases h
        cases vs with
        | nil => simp [DataW.TrodAll] at hA
        | cons v vs =>
          cases ds with
          | nil => simp [DataW.TrodAll] at hA
          | cons d ds =>
            obtain ⟨p, q, hd, hA', _⟩ := hA
            obtain ⟨x, k1, k2⟩ := open_par h1 (hv 0 t v rfl rfl) hd
            obtain ⟨xs, k3, k4⟩ := open_pars ts ks' vs ds q h2 (fun j t v ht hv' => hv (j + 1) t v ht hv') hA'
            exact ⟨x :: xs, .cons k1 k3, reps_cons k2 k4⟩

theorem trodAll_len : ∀ (ts : List TypeId) (vs : List Value) (ds : List (DataW H)) (ps : List MemPlace), DataW.TrodAll enc P w base sp held ts vs ds ps → ds.length = ts.length
  | [], [], [], _, _ => rfl
  | t :: ts, v :: vs, d :: ds, ps, ⟨p, q, _, h, _⟩ => by simp [trodAll_len ts vs ds q h]
theorem below_all (hl : laidOutB P = true) {W W' : World} (hb : Below W.heap.size W W') : ∀ (ts : List TypeId) (vs : List Value) (ds : List (DataW H)) (ps : List MemPlace), (∀ t ∈ ts, P.readableRec t = true ∧ t < P.types.size) → DataW.TrodAll enc P W 0 (fun _ => true) true ts vs ds ps →
    DataW.TrodAll enc P W' 0 (fun b => decide (b < W.heap.size)) true ts vs ds ps
  | [], [], [], ps, _, h => h
  | t :: ts, v :: vs, d :: ds, ps, ht, ⟨p, q, hd, h, he⟩ => by
    refine ⟨p, q, Below.trod hl (ht t List.mem_cons_self).1 (ht t List.mem_cons_self).2 hd hb ?_, below_all hl hb ts vs ds q (fun t h => ht t (List.mem_cons_of_mem _ h)) h, he⟩
    obtain ⟨m, hm⟩ := hd
    exact DataW.trod_lt m _ _ _ hm
end

/-- The law's row, out of its contract. -/
theorem law_lift {C : Checked} {os : Os} {f : FuncId} {fn : Func} {s : ChangeSpec} {rt : TypeId} {ps : Array TypeId} {ks : List Pk} {conds : List PathCond} {H : Type} {enc : TypeId × Value → H}
    (own : ownKnob C.prog.godebug = none) (started : os.Started) (noInit : C.prog.inits.idxOf? f = none) (hfn : C.prog.funcs[f]? = some fn)
    (witness : ∃ (w : World) (tape : Tape) (i : Input), w.os = os ∧ (w.forCall tape i).Shaped C.prog ∧ i.vars = [] ∧ Input.okWide C.prog (w.forCall tape i) .any w.heap.size f i ∧
      s.pre6 enc C.prog fn conds false (w.forCall tape i).memory i.args ∧ Assume.holds {} C.prog (lone (Frame.enter C.prog f i.args .normal) [] (w.forCall tape i)))
    (hps : fn.params = ps) (hrt : fn.resultTypes = #[rt]) (hb : C.prog.underlying rt = some .bool) (hv : s.vars = []) (hl : laidOutB C.prog = true)
    (hread : ps.toList.all (fun t => C.prog.readableRec t && decide (t < C.prog.types.size)) = true) (hk : parsB C.prog ps.toList = some ks)
    (hs : ∀ (ds : List (DataW H)), ds.length = ps.size → s.fn H ds = { results := [.lit (.bool true)], args := ds })
    (h : ∀ ds, OkPs ks ds → AC C.prog f ds (fun d => d = .im (.bool true))) :
    ReturnsInHanded {} C os f .any (s.pre6 enc C.prog fn conds false) (s.post enc C.prog fn false true false false) := by
  refine returnsInHanded_of_change_sized own started noInit hfn witness ?_
  intro W base args ds gs before hval hW hcnd hsz _
  have hW' := hW
  obtain ⟨p, q, hA, hV, rfl, hfz, hnd⟩ := hW
  rw [hps] at hA hval
  rw [hv] at hV
  obtain ⟨rfl, rfl⟩ : gs = [] ∧ q = [] := by
    cases gs with
    | nil => exact ⟨rfl, hV⟩
    | cons g gs => simp [DataW.TrodVars] at hV
  obtain ⟨xs, ho, hr⟩ := open_pars ps.toList ks args.toList ds p hk (fun j t v ht hv' => hval j t v (by simpa using ht) (by simpa using hv')) hA
  have hlen := trodAll_len _ _ _ _ hA
  refine ((h xs ho).out Nope W args.toList (fun g h => h.elim) hr).mono ?_
  rintro e W' ⟨d, v, rfl, rfl, hrep, bel⟩
  obtain rfl := Rep.im_inv hrep
  have hsd := hs ds (by simpa using hlen)
  refine ⟨_, rfl, ds, [], _, [], p, [], hW', ?_, ?_, ?_, bel.frame _, fun h => by cases h⟩
  · rw [List.append_nil, hsd, hrt]
    exact trodAll_mk1 (shut_bool hb _)
  · rw [List.append_nil, hsd, hps]
    exact below_all hl bel _ _ _ _ (fun t ht => by
      have := List.all_eq_true.1 hread t ht
      simpa using this) hA
  · rw [List.append_nil, hsd, hv]
    rfl
/-! ### What a law's arguments are -/
theorem oks_cons {k : Ck} {ks : List Ck} {ds : List Dv} (h : Oks (k :: ks) ds) : ∃ d ds', ds = d :: ds' ∧ Ok k d ∧ Oks ks ds' := by
  match ds, h with
  | [], h => simp [Oks] at h
  | d :: ds', h => exact ⟨d, ds', rfl, h.2 0 k d rfl rfl, by simpa using h.1, fun i e d he hd => h.2 (i + 1) e d he hd⟩
theorem oks_nil {ds : List Dv} (h : Oks [] ds) : ds = [] := List.eq_nil_of_length_eq_zero (by simpa [Oks] using h.1)
theorem ok_int {k : IntKind} {d : Dv} (h : Ok (.int k) d) : ∃ n, d = .im (.int k n) ∧ (Lit.int k n).wf = true := by cases h; exact ⟨_, rfl, ‹_›⟩
theorem ok_i64 {d : Dv} (h : Ok (.int .i64) d) : ∃ n, d = .im (.int .i64 n) ∧ -9223372036854775808 ≤ n ∧ n ≤ 9223372036854775807 := by
  obtain ⟨n, h1, h2⟩ := ok_int h
  refine ⟨n, h1, ?_⟩
  simp [Lit.wf, IntKind.min, IntKind.max, IntKind.bits, IntKind.signed] at h2
  omega
theorem ok_bool {d : Dv} (h : Ok .bool d) : ∃ b, d = .im (.bool b) := by cases h; exact ⟨_, rfl⟩
theorem ok_str {d : Dv} (h : Ok .str d) : ∃ s, d = .im (.string s) ∧ s.size ≤ maxLen := by cases h; exact ⟨_, rfl, ‹_›⟩
theorem ok_sl {α : Type} {f : α → List Dv} {es : List Ck} {P : α → Prop} {d : Dv} (h : Ok (.sl es) d) (hel : ∀ x : List Dv, Oks es x → ∃ a, x = f a ∧ P a) : ∃ as : List α, d = .sl (as.map f) ∧ as.length ≤ maxLen ∧ ∀ a ∈ as, P a := by
  cases h with
  | sl hm hl hx =>
    rename_i xs
    have : ∀ (ys : List (List Dv)), (∀ y ∈ ys, y ∈ xs) → ∃ as : List α, ys = as.map f ∧ ∀ a ∈ as, P a := by
      intro ys
      induction ys with
      | nil => intro _; exact ⟨[], rfl, by simp⟩
      | cons y ys ih =>
        intro hy
        obtain ⟨as, h1, h2⟩ := ih (fun z hz => hy z (List.mem_cons_of_mem _ hz))
        have hm := hy y List.mem_cons_self
        obtain ⟨a, h3, h4⟩ := hel y ⟨hl y hm, fun i e d he hd => hx y hm i e d he hd⟩
        exact ⟨a :: as, by rw [h3, h1]; rfl, by simpa using ⟨h4, h2⟩⟩
    obtain ⟨as, h1, h2⟩ := this xs (fun _ h => h)
    exact ⟨as, by rw [h1], by rw [h1] at hm; simpa using hm, h2⟩
theorem ok_strs {d : Dv} (h : Ok (.sl [.str]) d) : ∃ ss : List ByteArray, d = .sl (ss.map fun s => [.im (.string s)]) ∧ ss.length ≤ maxLen ∧ ∀ s ∈ ss, s.size ≤ maxLen :=
  ok_sl (f := fun s => [.im (.string s)]) (P := fun s : ByteArray => s.size ≤ maxLen) h (fun x hx => by
    obtain ⟨d, ds, rfl, h1, h2⟩ := oks_cons hx
    obtain rfl := oks_nil h2
    obtain ⟨s, rfl, h3⟩ := ok_str h1
    exact ⟨s, rfl, h3⟩)
theorem pars_cons {k : Pk} {ks : List Pk} {ds : List Dv} (h : OkPs (k :: ks) ds) : ∃ d ds', ds = d :: ds' ∧ OkP k d ∧ OkPs ks ds' := by cases h; exact ⟨_, _, rfl, ‹_›, ‹_›⟩
theorem pars_nil {ds : List Dv} (h : OkPs [] ds) : ds = [] := by cases h; rfl
end Go.Proofs.Ytgafdhpagifpcaa.Av
