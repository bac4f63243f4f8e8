/-
  OWN WORK. The calculus: a region whose order is drawn.
-/
import Derived.Test.YtgafdhpagifpcaaAv1
namespace Go.Proofs.Ytgafdhpagifpcaa.Av
open Go
set_option linter.unusedVariables false
set_option linter.unusedSimpArgs false

def isTmp (t : Tmp) : Operand → Bool
  | .tmp u => u == t
  | _ => false
def edgeTo (o : Oper) (j : Nat) : Bool := o.after.any fun e => Region.binds .any e && e.on == j
def dstAt (ops : Array Oper) (j : Nat) : Option Tmp := (ops[j]?).bind (·.dst)
def gSlot (ops : Array Oper) (o : Oper) : Option Tmp := match o.guard with
  | some (j, _) => dstAt ops j
  | none => none
def okPre (ops : Array Oper) (m i : Nat) (o : Oper) : Bool :=
  (match o.guard with
    | some (j, _) => decide (j < i) && edgeTo o j
    | none => true) && (List.range ops.size).all fun j =>
    match dstAt ops j with
    | some t => (!(o.op.operands.any (isTmp t) || gSlot ops o == some t) || (decide (j < i) && edgeTo o j)) && (decide (m ≤ j) || j == i || o.dst != some t)
    | none => true
def okDraw (ops : Array Oper) (m : Nat) : Bool :=
  decide (m ≤ ops.size) && (List.range ops.size).all fun i =>
    match ops[i]? with
    | none => false
    | some o => (o.after.all fun e => decide (e.on < i)) && (if i < m then okPre ops m i o else (List.range i).all fun j => edgeTo o j)

section
variable {c : Cx} {N : Nat} {ops : Array Oper} {σ τ : Sg} {H : List (List Dv)}

/-- The operation o yields r, or it is not carried out. -/
def GS (c : Cx) (N : Nat) (ops : Array Oper) (o : Oper) (H : List (List Dv)) (σ : Sg) (r : Sv) : Prop :=
  (o.guard = none ∧ XS c o H σ r) ∨ ∃ (j : Nat) (want : Bool) (t : Tmp) (b : Bool), o.guard = some (j, want) ∧ dstAt ops j = some t ∧ t < N ∧ lk σ t = some (.d (.im (.bool b))) ∧ ((b = want ∧ XS c o H σ r) ∨ (b ≠ want ∧ r = .d (.tu [])))

inductive DR (c : Cx) (N : Nat) (ops : Array Oper) (H : List (List Dv)) : Nat → Sg → Nat → Sg → Prop
  | nil (i : Nat) (σ : Sg) : DR c N ops H i σ i σ
  | cons {i m : Nat} {σ τ : Sg} {o : Oper} {r : Sv} : ops[i]? = some o → dstOk N o.dst = true → GS c N ops o H σ r → DR c N ops H (i + 1) (put σ o.dst r) m τ → DR c N ops H i σ m τ

theorem lk_put_ne {σ : Sg} {d : Option Tmp} {s : Sv} {t : Tmp} (h : d ≠ some t) : lk (put σ d s) t = lk σ t := by
  cases d with
  | none => rfl
  | some i => simp only [put, lk]; rw [if_neg (fun e => h (by rw [e]))]
theorem lk_put_eq {σ : Sg} {s : Sv} {t : Tmp} : lk (put σ (some t) s) t = some s := by simp [put, lk]

theorem DR.le {i m : Nat} (h : DR c N ops H i σ m τ) : i ≤ m := by
  induction h with
  | nil => exact Nat.le_refl _
  | cons _ _ _ _ ih => omega
theorem DR.lk {i m : Nat} (h : DR c N ops H i σ m τ) : ∀ t, (∀ j, i ≤ j → j < m → dstAt ops j ≠ some t) → lk τ t = lk σ t := by
  induction h with
  | nil => exact fun _ _ => rfl
  | cons ho hd hx hr ih =>
    intro t ht
    rw [ih t (fun j hj hm => ht j (by omega) hm)]
    refine lk_put_ne ?_
    have := ht _ (Nat.le_refl _) (by have := hr.le; omega)
    simpa [dstAt, ho] using this
theorem DR.get {i m : Nat} (h : DR c N ops H i σ m τ) : ∀ j, i ≤ j → j < m → ∃ o r σj, ops[j]? = some o ∧ dstOk N o.dst = true ∧ GS c N ops o H σj r ∧
    (∀ t, (∀ k, j ≤ k → k < m → dstAt ops k ≠ some t) → Av.lk τ t = Av.lk σj t) ∧ (∀ t, o.dst = some t → (∀ k, j < k → k < m → dstAt ops k ≠ some t) → Av.lk τ t = some r) := by
  induction h with
  | nil => intro j h1 h2; omega
  | @cons i m σ τ o r ho hd hx hr ih =>
    intro j h1 h2
    rcases Nat.eq_or_lt_of_le h1 with he | hlt
    · subst he
      refine ⟨o, r, σ, ho, hd, hx, fun t ht => DR.lk (.cons ho hd hx hr) t ht, fun t hdt ht => ?_⟩
      rw [hr.lk t (fun k hk hm => ht k (by omega) hm), hdt]
      exact lk_put_eq
    · exact ih j hlt h2

theorem okDraw_at {m : Nat} (h : okDraw ops m = true) : m ≤ ops.size ∧ ∀ i o, ops[i]? = some o →
    (∀ e ∈ o.after, e.on < i) ∧ (i < m → okPre ops m i o = true) ∧ (¬ i < m → ∀ j, j < i → edgeTo o j = true) := by
  simp only [okDraw, Bool.and_eq_true, decide_eq_true_eq, List.all_eq_true, List.mem_range] at h
  refine ⟨h.1, fun i o ho => ?_⟩
  have hi : i < ops.size := (Array.getElem?_eq_some_iff.1 ho).1
  have := h.2 i hi
  rw [ho] at this
  simp only [Bool.and_eq_true, Array.all_eq_true, decide_eq_true_eq] at this
  obtain ⟨h1, h2⟩ := this
  refine ⟨fun e he => ?_, fun hm => by rw [if_pos hm] at h2; exact h2, fun hm j hj => ?_⟩
  · obtain ⟨k, hk, rfl⟩ := Array.mem_iff_getElem.1 he
    exact h1 k hk
  · rw [if_neg hm] at h2
    simp only [List.all_eq_true, List.mem_range] at h2
    exact h2 j hj

theorem okPre_at {m i : Nat} {o : Oper} (h : okPre ops m i o = true) : (∀ j want, o.guard = some (j, want) → j < i ∧ edgeTo o j = true) ∧ ∀ j t, j < ops.size → dstAt ops j = some t →
    (Operand.tmp t ∈ o.op.operands.toList ∨ gSlot ops o = some t → j < i ∧ edgeTo o j = true) ∧ (o.dst = some t → m ≤ j ∨ j = i) := by
  simp only [okPre, Bool.and_eq_true, List.all_eq_true, List.mem_range] at h
  refine ⟨fun j want hg => by have := h.1; rw [hg] at this; simpa using this, fun j t hj hd => ?_⟩
  have := h.2 j hj
  rw [hd] at this
  simp only [Bool.and_eq_true, Bool.or_eq_true, decide_eq_true_eq, beq_iff_eq, Bool.not_eq_true'] at this
  refine ⟨fun ht => ?_, fun ht => ?_⟩
  · have hany : (o.op.operands.any (isTmp t) || gSlot ops o == some t) = true := by
      rcases ht with ht | ht
      · rw [Bool.or_eq_true]
        left
        rw [Array.any_eq_true]
        obtain ⟨q, hq, he⟩ := List.mem_iff_getElem.1 ht
        refine ⟨q, by simpa using hq, ?_⟩
        have : o.op.operands[q]'(by simpa using hq) = .tmp t := by simpa using he
        rw [this]; simp [isTmp]
      · rw [ht]; simp
    rcases this.1 with h | h
    · rw [hany] at h; cases h
    · exact h
  · rcases this.2 with (h | h) | h
    · exact .inl h
    · exact .inr h
    · rw [ht] at h; simp at h

theorem edge_listed {o : Oper} {j : Nat} {L : Array Bool} (h : edgeTo o j = true) (hr : (o.after.all fun e => !Region.binds .any e || L.getD e.on false) = true) : L.getD j false = true := by
  simp only [edgeTo, Array.any_eq_true, Bool.and_eq_true, beq_iff_eq] at h
  obtain ⟨k, hk, hb, he⟩ := h
  simp only [Array.all_eq_true] at hr
  have := hr k hk
  rw [hb, he] at this
  simpa using this

theorem ready_iff {L : Array Bool} {i : Nat} : i ∈ Region.ready .any ops L ↔ ∃ o, ops[i]? = some o ∧ L.getD i true = false ∧ (o.after.all fun e => !Region.binds .any e || L.getD e.on false) = true := by
  simp only [Region.ready, List.mem_filter, List.mem_range, Bool.and_eq_true, Bool.not_eq_true']
  constructor
  · rintro ⟨h1, h2, h3⟩
    obtain ⟨o, ho⟩ : ∃ o, ops[i]? = some o := ⟨_, Array.getElem?_eq_getElem h1⟩
    rw [ho] at h3
    exact ⟨o, ho, h2, by simpa using h3⟩
  · rintro ⟨o, ho, h2, h3⟩
    refine ⟨(Array.getElem?_eq_some_iff.1 ho).1, h2, ?_⟩
    rw [ho]; simpa using h3

/-- The operations of the tail come in their order. -/
theorem tail_any {m : Nat} (hok : okDraw ops m = true) {R : Exit → Act → World → Prop} : ∀ (fuel k : Nat) (L : Array Bool) (a : Act) (w : World), m ≤ k → k ≤ ops.size → L.size = ops.size → ops.size - k ≤ fuel →
    (∀ j, j < ops.size → L.getD j false = decide (j < k)) → wpOps c.P ops R (List.range' k (ops.size - k)) a w → wpAny c.P .any ops R fuel L a w := by
  intro fuel
  obtain ⟨hm, hat⟩ := okDraw_at hok
  have hrd : ∀ (k : Nat) (L : Array Bool), m ≤ k → k ≤ ops.size → L.size = ops.size → (∀ j, j < ops.size → L.getD j false = decide (j < k)) → ∀ i, i ∈ Region.ready .any ops L → i = k ∧ k < ops.size := by
    intro k L hmk hk hs hL i hi
    obtain ⟨o, ho, h1, h2⟩ := ready_iff.1 hi
    have hio : i < ops.size := (Array.getElem?_eq_some_iff.1 ho).1
    have hLi := hL i hio
    have : L.getD i false = false := by
      rw [Array.getD_eq_getD_getElem?] at h1 ⊢
      rw [Array.getElem?_eq_getElem (by omega)] at h1 ⊢
      simpa using h1
    rw [this] at hLi
    have hki : k ≤ i := by
      rcases Nat.lt_or_ge i k with h | h
      · simp [h] at hLi
      · exact h
    rcases Nat.eq_or_lt_of_le hki with he | hlt
    · exact ⟨he.symm, by omega⟩
    · have he := (hat i o ho).2.2 (by omega) k hlt
      have := edge_listed he h2
      rw [hL k (by omega)] at this
      simp at this
  have hin : ∀ (k : Nat) (L : Array Bool), m ≤ k → k < ops.size → L.size = ops.size → (∀ j, j < ops.size → L.getD j false = decide (j < k)) → k ∈ Region.ready .any ops L := by
    intro k L hmk hk hs hL
    refine ready_iff.2 ⟨ops[k], Array.getElem?_eq_getElem hk, ?_, ?_⟩
    · have := hL k hk
      rw [Array.getD_eq_getD_getElem?] at this ⊢
      rw [Array.getElem?_eq_getElem (by omega)] at this ⊢
      simpa using this
    · rw [Array.all_eq_true]
      intro i hi
      have := (hat k _ (Array.getElem?_eq_getElem hk)).1 _ (Array.getElem_mem hi)
      rw [hL _ (by omega)]
      simp [this]
  induction fuel with
  | zero =>
    intro k L a w h1 h2 h3 h4 h5 h
    have hk : k = ops.size := by omega
    subst hk
    simp only [Nat.sub_self, List.range'_zero, wpOps] at h
    refine ⟨?_, h⟩
    refine List.eq_nil_iff_forall_not_mem.2 (fun i hi => ?_)
    have := hrd _ L h1 h2 h3 h5 i hi
    omega
  | succ fuel ih =>
    intro k L a w h1 h2 h3 h4 h5 h
    rcases Nat.eq_or_lt_of_le h2 with hk | hk
    · subst hk
      simp only [Nat.sub_self, List.range'_zero, wpOps] at h
      refine ⟨fun _ => h, fun i hi => ?_⟩
      have := hrd _ L h1 h2 h3 h5 i hi
      omega
    · refine ⟨fun he => ?_, fun i hi => ?_⟩
      · have := hin k L h1 hk h3 h5
        rw [he] at this
        cases this
      · obtain ⟨rfl, _⟩ := hrd k L h1 h2 h3 h5 i hi
        have he : ops.size - i = (ops.size - (i + 1)) + 1 := by omega
        rw [he, List.range'_succ, wpOps_cons] at h
        refine wpOp_mono (fun a w h => ?_) h
        refine ih (i + 1) _ a w (by omega) (by omega) (by simpa using h3) (by omega) (fun j hj => ?_) h
        by_cases hij : j = i
        · subst hij
          simp [Array.getD_eq_getD_getElem?, Array.getElem?_setIfInBounds, h3, hj]
        · have := h5 j hj
          simp only [Array.getD_eq_getD_getElem?, Array.getElem?_setIfInBounds, Ne.symm hij, if_false] at this ⊢
          rw [this]
          simp; omega

set_option maxHeartbeats 1000000 in
theorem pre_any {m : Nat} (hok : okDraw ops m = true) (hdr : DR c N ops H 0 σ m τ) {R : Exit → Act → World → Prop} {bs : List (Option Nat)}
    (hend : ∀ a w, WI c bs H w → a.tmps.size = N → a.defers = [] → (∀ t s, lk τ t = some s → SRep c.T bs w s (a.tmps.getD t undef)) → wpOps c.P ops R (List.range' m (ops.size - m)) a w) :
    ∀ (n fuel : Nat) (L : Array Bool) (a : Act) (w : World), n = ((List.range m).filter fun i => !L.getD i false).length → n + (ops.size - m) ≤ fuel → L.size = ops.size →
    (∀ j, m ≤ j → j < ops.size → L.getD j false = false) →
    WI c bs H w → a.tmps.size = N → a.defers = [] → (∀ t s, lk σ t = some s → (∀ j, j < m → L.getD j false = true → dstAt ops j ≠ some t) → SRep c.T bs w s (a.tmps.getD t undef)) →
    (∀ j t s, j < m → L.getD j false = true → dstAt ops j = some t → lk τ t = some s → SRep c.T bs w s (a.tmps.getD t undef)) →
    wpAny c.P .any ops R fuel L a w := by
  obtain ⟨hm, hat⟩ := okDraw_at hok
  -- two slots of two operations of the first part are two
  have hne : ∀ i j t, i < m → j < m → dstAt ops i = some t → dstAt ops j = some t → i = j := by
    intro i j t hi hj h1 h2
    obtain ⟨o, ho⟩ : ∃ o, ops[i]? = some o := ⟨_, Array.getElem?_eq_getElem (by omega)⟩
    have hod : o.dst = some t := by simpa [dstAt, ho] using h1
    rcases ((okPre_at ((hat i o ho).2.1 hi)).2 j t (by omega) h2).2 hod with h | h
    · omega
    · exact h.symm
  intro n
  induction n with
  | zero =>
    intro fuel L a w hn hf hs hL hW hN hD h1 h2
    have hall : ∀ j, j < m → L.getD j false = true := by
      intro j hj
      have hnil : ((List.range m).filter fun i => !L.getD i false) = [] := List.eq_nil_of_length_eq_zero hn.symm
      have := List.filter_eq_nil_iff.1 hnil j (List.mem_range.2 hj)
      simpa using this
    refine tail_any hok fuel m L a w (Nat.le_refl _) hm hs (by omega) (fun j hj => ?_) (hend a w hW hN hD (fun t s ht => ?_))
    · by_cases hjm : j < m
      · rw [hall j hjm]; simp [hjm]
      · rw [hL j (by omega) hj]; simp [hjm]
    · by_cases he : ∃ j, j < m ∧ dstAt ops j = some t
      · obtain ⟨j, hj, hdj⟩ := he
        exact h2 j t s hj (hall j hj) hdj ht
      · have hnot : ∀ j, 0 ≤ j → j < m → dstAt ops j ≠ some t := fun j _ hj hd => he ⟨j, hj, hd⟩
        rw [hdr.lk t hnot] at ht
        exact h1 t s ht (fun j hj _ => hnot j (Nat.zero_le _) hj)
  | succ n ih =>
    intro fuel L a w hn hf hs hL hW hN hD h1 h2
    obtain ⟨fuel, rfl⟩ : ∃ f, fuel = f + 1 := ⟨fuel - 1, by omega⟩
    -- the least one that is not yet listed
    have hex : ∃ i, i < m ∧ L.getD i false = false := by
      have hne : ((List.range m).filter fun i => !L.getD i false) ≠ [] := by
        intro he; rw [he] at hn; simp at hn
      obtain ⟨i, hi⟩ := List.exists_mem_of_ne_nil _ hne
      simp at hi
      exact ⟨i, hi.1, by simpa using hi.2⟩
    refine ⟨fun he => ?_, fun i hi => ?_⟩
    · exfalso
      obtain ⟨i, ⟨hi, hl⟩, hleast⟩ := exists_least hex
      have : i ∈ Region.ready .any ops L := by
        refine ready_iff.2 ⟨ops[i], Array.getElem?_eq_getElem (by omega), ?_, ?_⟩
        · rw [Array.getD_eq_getD_getElem?] at hl ⊢
          rw [Array.getElem?_eq_getElem (by omega)] at hl ⊢
          simpa using hl
        · rw [Array.all_eq_true]
          intro k hk
          have hlt := (hat i _ (Array.getElem?_eq_getElem (by omega))).1 _ (Array.getElem_mem hk)
          have : L.getD (ops[i].after[k]).on false = true := by
            cases hb : L.getD (ops[i].after[k]).on false with
            | true => rfl
            | false => have := hleast _ ⟨by omega, hb⟩; omega
          rw [this]; simp
      rw [he] at this
      cases this
    · obtain ⟨o, ho, hl, hr⟩ := ready_iff.1 hi
      have hio : i < ops.size := (Array.getElem?_eq_some_iff.1 ho).1
      have hli : L.getD i false = false := by
        rw [Array.getD_eq_getD_getElem?] at hl ⊢
        rw [Array.getElem?_eq_getElem (by omega)] at hl ⊢
        simpa using hl
      have him : i < m := by
        rcases Nat.lt_or_ge i m with h | h
        · exact h
        · obtain ⟨j, hj, hjl⟩ := hex
          have := edge_listed ((hat i o ho).2.2 (by omega) j (by omega)) hr
          rw [this] at hjl; cases hjl
      obtain ⟨hgn, hpj⟩ := okPre_at ((hat i o ho).2.1 him)
      obtain ⟨o', r, σj, ho', hdN, hgs, hx1, hx2⟩ := hdr.get i (Nat.zero_le _) him
      rw [ho] at ho'
      cases ho'
      have hseti : ∀ j, (L.setIfInBounds i true).getD j false = if j = i then true else L.getD j false := by
        intro j
        by_cases hji : j = i
        · subst hji
          simp [Array.getD_eq_getD_getElem?, Array.getElem?_setIfInBounds, hs, hio]
        · simp only [hji, if_false, Array.getD_eq_getD_getElem?, Array.getElem?_setIfInBounds, Ne.symm hji]
      -- no later one writes what this one looks at
      have hopd : ∀ t, Operand.tmp t ∈ o.op.operands.toList → ∀ k, i ≤ k → k < m → dstAt ops k ≠ some t := by
        intro t ht k hk hkm hd
        have := ((hpj k t (by omega) hd).1 (.inl ht)).1
        omega
      have hdi : ∀ t, o.dst = some t → dstAt ops i = some t := fun t ht => by simp [dstAt, ho, ht]
      have hxo : ∀ x ∈ o.op.operands.toList, ∀ s, evS σj x = some s → SRep c.T bs w s (a.eval x) := by
        intro x hxm s hs
        cases x with
        | tmp t =>
          have hlk : lk τ t = some s := (hx1 t (hopd t hxm)).trans hs
          by_cases he : ∃ j, j < m ∧ dstAt ops j = some t
          · obtain ⟨j, hj, hdj⟩ := he
            exact h2 j t s hj (edge_listed ((hpj j t (by omega) hdj).1 (.inl hxm)).2 hr) hdj hlk
          · have hnot : ∀ j, 0 ≤ j → j < m → dstAt ops j ≠ some t := fun j _ hj hd => he ⟨j, hj, hd⟩
            rw [hdr.lk t hnot] at hlk
            exact h1 t s hlk (fun j hj _ => hnot j (Nat.zero_le _) hj)
        | const v =>
          simp only [evS] at hs
          split at hs
          · cases hs; exact Rep.im ‹_›
          · cases hs
        | global g => simp [evS] at hs
        | func f => cases hs; exact Rep.fn (va := []) (vb := []) rfl rfl (by simp) (by simp)
      have hB : ∀ v w', WI c bs H w' → WExt bs w w' → SRep c.T bs w' r v → wpAny c.P .any ops R fuel (L.setIfInBounds i true) (a.put o.dst v) w' := by
        intro v w' hW' hE hrep
        refine ih fuel _ _ w' ?_ (by omega) (by simpa using hs) ?_ hW' (by rw [Act.put_size]; exact hN) (by rw [Act.put_defers']; exact hD) ?_ ?_
        · have hmem : i ∈ (List.range m).filter fun i => !L.getD i false := List.mem_filter.2 ⟨List.mem_range.2 him, by rw [hli]; rfl⟩
          have hnd : ((List.range m).filter fun i => !L.getD i false).Nodup := List.nodup_range.filter _
          have : ((List.range m).filter fun j => !(L.setIfInBounds i true).getD j false) = ((List.range m).filter fun i => !L.getD i false).erase i := by
            rw [hnd.erase_eq_filter, List.filter_filter]
            refine List.filter_congr (fun j _ => ?_)
            rw [hseti j]
            by_cases hji : j = i
            · subst hji; simp
            · simp [hji]
          rw [this, List.length_erase_of_mem hmem]
          omega
        · intro j hj hjs
          rw [hseti j, if_neg (by omega)]
          exact hL j hj hjs
        · intro t s ht hnd
          have hti : o.dst ≠ some t := fun he => hnd i him (by rw [hseti, if_pos rfl]) (hdi t he)
          have := (h1 t s ht (fun j hj hl => hnd j hj (by rw [hseti]; split <;> first | rfl | exact hl))).ext hE
          have he : (a.put o.dst v).tmps.getD t undef = a.tmps.getD t undef := by
            cases hd : o.dst with
            | none => rfl
            | some q =>
              have : q ≠ t := fun e => hti (by rw [hd, e])
              simp [Act.put, Array.getD_eq_getD_getElem?, Array.getElem?_setIfInBounds, this]
          rw [he]; exact this
        · intro j t s hj hl hd ht
          rw [hseti] at hl
          by_cases hji : j = i
          · subst hji
            have hod : o.dst = some t := by simpa [dstAt, ho] using hd
            have hlk := hx2 t hod (fun k hk hkm hdk => by
              have := hne j k t him hkm hd hdk
              omega)
            rw [hlk] at ht
            cases ht
            have htN : t < N := by rw [hod] at hdN; simpa [dstOk] using hdN
            have he : (a.put o.dst v).tmps.getD t undef = v := by
              rw [hod]; simp [Act.put, Array.getD_eq_getD_getElem?, Array.getElem?_setIfInBounds, hN, htN]
            rw [he]; exact hrep
          · rw [if_neg hji] at hl
            have hti : o.dst ≠ some t := fun he => hji (hne j i t hj him hd (hdi t he))
            have he : (a.put o.dst v).tmps.getD t undef = a.tmps.getD t undef := by
              cases hdd : o.dst with
              | none => rfl
              | some q =>
                have : q ≠ t := fun e => hti (by rw [hdd, e])
                simp [Act.put, Array.getD_eq_getD_getElem?, Array.getElem?_setIfInBounds, this]
            rw [he]
            exact (h2 j t s hj hl hd ht).ext hE
      rcases hgs with ⟨hg0, hx⟩ | ⟨j, want, t, b, hg, hdj, htN, hlk, hcase⟩
      · simp only [wpOp, ho, Region.wanted, hg0, if_true]
        exact .inl (hx.out bs a w hW hxo _ _ hB)
      · obtain ⟨hji, hje⟩ := hgn j want hg
        obtain ⟨oj, hoj⟩ : ∃ oj, ops[j]? = some oj := ⟨_, Array.getElem?_eq_getElem (by omega)⟩
        have hdst : oj.dst = some t := by simpa [dstAt, hoj] using hdj
        have hgt : gSlot ops o = some t := by unfold gSlot; rw [hg]; exact hdj
        have hτ : lk τ t = some (.d (.im (.bool b))) := (hx1 t (fun k hk hkm hd => by
          have := ((hpj k t (by omega) hd).1 (.inr hgt)).1
          omega)).trans hlk
        have hy := yielded_of (c := c) (bs := bs) (w := w) hN hoj hdst htN (h2 j t _ (by omega) (edge_listed hje hr) hdj hτ)
        simp only [wpOp, ho, Region.wanted, hg, hy]
        rcases hcase with ⟨hw, hx⟩ | ⟨hw, hr0⟩
        · subst hw
          simp only [beq_self_eq_true, if_true]
          exact .inl (hx.out bs a w hW hxo _ _ hB)
        · have : (some b == some want) = false := by simpa using hw
          simp only [this, Bool.false_eq_true, if_false]
          subst hr0
          exact hB undef w hW (WExt.refl _ _) (Rep.tu (vs := []) rfl (by simp))

theorem AW.draw {id m : Nat} {Q : Ax → Sg → List (List Dv) → Prop} (hmix : c.P.follows .mixedOrders = true) (hdr : DR c N ops H 0 σ m τ) (hok : okDraw ops m = true)
    (h : AO c N ops (List.range' m (ops.size - m)) (Q .normal) τ H) : AW c N (.region id ops true) Q σ H := by
  refine ⟨fun R h1 _ _ a w ⟨bs, hW, hN, hD, hs⟩ => ?_⟩
  refine wp_region_any hmix ?_
  have hm := (okDraw_at hok).1
  have hW' : WI c bs H { w with drawn := w.drawn + 1 } := by
    refine ⟨hW.os, hW.tape, hW.output, hW.size, hW.old, hW.told, hW.own, hW.ext, hW.blt, hW.nd, hW.len, hW.erow, fun i g ds h1 h2 => ?_⟩
    obtain ⟨vs, t, k1, k2, k3, k4⟩ := hW.box i g ds h1 h2
    exact ⟨vs, t, k1, k2, k3, fun j d v hj hv => (k4 j d v hj hv).mono (fun _ _ h => h) (fun _ _ _ => rfl)⟩
  have hE : WExt bs w { w with drawn := w.drawn + 1 } := ⟨Nat.le_refl _, fun _ _ _ => rfl, fun _ _ vs _ h => ⟨vs, h, rfl⟩⟩
  have hfil : ((List.range m).filter fun i => !(Array.replicate ops.size false).getD i false) = List.range m := by
    rw [List.filter_eq_self]
    intro i _
    simp [Array.getD_eq_getD_getElem?, Array.getElem?_replicate]
    split <;> rfl
  refine pre_any hok hdr (bs := bs) (fun a w hW hN hD hs => h.out R h1 a w ⟨bs, hW, hN, hD, hs⟩) m ops.size _ a _ (by rw [hfil, List.length_range]) (by omega) (by simp) ?_ hW' hN hD ?_ ?_
  · intro j hj hjs
    simp [Array.getD_eq_getD_getElem?, Array.getElem?_replicate, hjs]
  · exact fun t s ht _ => (hs t s ht).ext hE
  · intro j t s hj hl
    simp [Array.getD_eq_getD_getElem?, Array.getElem?_replicate] at hl
    split at hl <;> simp at hl

/-- The drawn region, gone through in the order of its text. -/
structure DC (c : Cx) (N : Nat) (ops : Array Oper) (i : Nat) (Q : Sg → List (List Dv) → Prop) (σ : Sg) (H : List (List Dv)) : Prop where
  out : ∃ m τ, DR c N ops H i σ m τ ∧ okDraw ops m = true ∧ AO c N ops (List.range' m (ops.size - m)) Q τ H
theorem DC.cons {i : Nat} {o : Oper} {r : Sv} {Q : Sg → List (List Dv) → Prop} (ho : ops[i]? = some o) (hg : o.guard = none) (hd : dstOk N o.dst = true) (hx : XS c o H σ r) (h : DC c N ops (i + 1) Q (put σ o.dst r) H) : DC c N ops i Q σ H := by
  obtain ⟨m, τ, h1, h2, h3⟩ := h.out
  exact ⟨m, τ, .cons ho hd (.inl ⟨hg, hx⟩) h1, h2, h3⟩
theorem DC.split {i : Nat} {Q : Sg → List (List Dv) → Prop} (t : Nat) {b : Bool} (hb : lk σ t = some (.d (.im (.bool b)))) (h1 : b = true → DC c N ops i Q σ H) (h2 : b = false → DC c N ops i Q σ H) : DC c N ops i Q σ H := by
  cases b
  · exact h2 rfl
  · exact h1 rfl
theorem DC.gyes {i j : Nat} {want : Bool} {o oj : Oper} {t : Tmp} {b : Bool} {Q : Sg → List (List Dv) → Prop} (ho : ops[i]? = some o) (hg : o.guard = some (j, want)) (hj : ops[j]? = some oj) (hdj : oj.dst = some t) (htN : dstOk N (some t) = true)
    (hb : lk σ t = some (.d (.im (.bool b)))) (hw : b = want) {r : Sv} (hd : dstOk N o.dst = true) (hx : XS c o H σ r) (h : DC c N ops (i + 1) Q (put σ o.dst r) H) : DC c N ops i Q σ H := by
  obtain ⟨m, τ, h1, h2, h3⟩ := h.out
  exact ⟨m, τ, .cons ho hd (.inr ⟨j, want, t, b, hg, by simp [dstAt, hj, hdj], by simpa [dstOk] using htN, hb, .inl ⟨hw, hx⟩⟩) h1, h2, h3⟩
theorem DC.gno {i j : Nat} {want : Bool} {o oj : Oper} {t : Tmp} {b b' : Bool} {Q : Sg → List (List Dv) → Prop} (ho : ops[i]? = some o) (hg : o.guard = some (j, want)) (hj : ops[j]? = some oj) (hdj : oj.dst = some t) (htN : dstOk N (some t) = true)
    (hb : lk σ t = some (.d (.im (.bool b)))) (hw : b = b') (hne : b' ≠ want) (hd : dstOk N o.dst = true) (h : DC c N ops (i + 1) Q (put σ o.dst (.d (.tu []))) H) : DC c N ops i Q σ H := by
  obtain ⟨m, τ, h1, h2, h3⟩ := h.out
  subst hw
  exact ⟨m, τ, .cons ho hd (.inr ⟨j, want, t, b, hg, by simp [dstAt, hj, hdj], by simpa [dstOk] using htN, hb, .inr ⟨hne, rfl⟩⟩) h1, h2, h3⟩
theorem DC.done {i : Nat} {Q : Sg → List (List Dv) → Prop} (hok : okDraw ops i = true) (h : AO c N ops (List.range' i (ops.size - i)) Q σ H) : DC c N ops i Q σ H := ⟨i, σ, .nil i σ, hok, h⟩
theorem AW.drawn {id : Nat} {Q : Ax → Sg → List (List Dv) → Prop} (hmix : c.P.follows .mixedOrders = true) (h : DC c N ops 0 (Q .normal) σ H) : AW c N (.region id ops true) Q σ H := by
  obtain ⟨m, τ, h1, h2, h3⟩ := h.out
  exact AW.draw hmix h1 h2 h3
end
end Go.Proofs.Ytgafdhpagifpcaa.Av
