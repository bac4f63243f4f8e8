/-
  OWN WORK. The calculus: rows of the call's own: made, appended to, frozen.
-/
import Derived.Test.YtgafdhpagifpcaaAv6
import Derived.Deep.AppendSrc
import Derived.Laws.MakeOwn
import Derived.Laws.AppendOwn
import Derived.Great.BuildSlice
namespace Go.Proofs.Ytgafdhpagifpcaa.Av
open Go Go.RowKit
set_option linter.unusedVariables false
set_option linter.unusedSimpArgs false

/-! ### 13. Rows: their types; what is forgotten of a row -/
def appB (P : Program) (t : TypeId) : Option (Nat × Nat × List Dv) := match P.underlying t with
  | some (.slice e) => match P.info? e with
    | some i => match i.zero with
      | some z => if z.cells.size = i.size ∧ 0 < i.size ∧ z.cells.all (·.oneCell') = true then some (i.size, i.bytes, z.cells.toList.map ofV) else none
      | none => none
    | none => none
  | _ => none
theorem app_u {P : Program} {t : TypeId} {sz bt : Nat} {zs : List Dv} (h : appB P t = some (sz, bt, zs)) : ∃ e i z, P.underlying t = some (.slice e) ∧ P.info? e = some i ∧ i.zero = some z ∧ i.size = sz ∧ i.bytes = bt ∧ z.cells.size = sz ∧ 0 < sz ∧
    (∀ u ∈ z.cells, u.oneCell' = true) ∧ zs = z.cells.toList.map ofV := by
  unfold appB at h
  split at h
  · rename_i e hu
    cases hi : P.info? e with
    | none => rw [hi] at h; cases h
    | some i =>
      rw [hi] at h
      simp only at h
      cases hz : i.zero with
      | none => rw [hz] at h; cases h
      | some z =>
        rw [hz] at h
        simp only at h
        split at h
        · rename_i hc
          cases h
          exact ⟨e, i, z, hu, hi, hz, rfl, rfl, hc.1, hc.2.1, fun u hu' => Array.all_eq_true_iff_forall_mem.1 hc.2.2 u hu', rfl⟩
        · cases h
  · cases h

theorem lk_kill (b : Nat) (σ : Sg) (t : Nat) : lk (.kill b :: σ) t = (lk σ t).map (killS b) := by
  simp only [lk]
  cases lk σ t <;> rfl

theorem flatten_at {α : Type} {sz : Nat} (hsz : 0 < sz) : ∀ (ys : List (List α)), (∀ y ∈ ys, y.length = sz) → ys.flatten.length = ys.length * sz ∧ ∀ k, ys.flatten[k]? = (ys[k / sz]?).bind (·[k % sz]?)
  | [], _ => ⟨by simp, fun k => by simp⟩
  | y :: ys, h => by
    obtain ⟨h1, h2⟩ := flatten_at hsz ys (fun y hy => h y (List.mem_cons_of_mem _ hy))
    have hy := h y List.mem_cons_self
    refine ⟨by simp [h1, hy, Nat.add_mul]; omega, fun k => ?_⟩
    simp only [List.flatten_cons]
    rcases Nat.lt_or_ge k sz with hk | hk
    · rw [List.getElem?_append_left (by omega), Nat.div_eq_of_lt hk, Nat.mod_eq_of_lt hk]; simp
    · rw [List.getElem?_append_right (by omega), h2, hy]
      have e1 : k / sz = (k - sz) / sz + 1 := by
        rw [← Nat.add_div_right _ hsz]; congr 1; omega
      have e2 : k % sz = (k - sz) % sz := by
        rw [← Nat.add_mod_right (k - sz) sz]; congr 1; omega
      rw [e1, e2]; simp

theorem setRow_cells {P : Program} {w : World} {g o : Nat} {e : TypeId} {cur : Array Value} {news : List Value} (hg : w.heap[g]? = some (.cells cur e (0, 0))) (hfit : o + news.length ≤ cur.size) (h1 : ∀ u ∈ news, u.oneCell' = true) :
    w.setCells g o news = w.setRow g (cur.toList.take o ++ news ++ cur.toList.drop (o + news.length)).toArray := by
  have r1 := run_storeCells_cells (P := P) g o news 0 w (fun j hj => by
    have : o + j < cur.size := by omega
    simp [World.cell?, hg, this]) (fun j hj => by simp [World.frozen?, hg]) h1
  have r2 := run_storeCells_at (P := P) g o e news 0 cur w hg (by omega) h1
  rw [r1] at r2
  simpa using r2

theorem mid_at {cs : Array Value} {o : Nat} {vs : List Value} (h : o + vs.length ≤ cs.size) : ((cs.toList.take o ++ vs ++ cs.toList.drop (o + vs.length)).toArray).size = cs.size ∧
    ∀ j, ((cs.toList.take o ++ vs ++ cs.toList.drop (o + vs.length)).toArray)[j]? = if o ≤ j ∧ j < o + vs.length then vs[j - o]? else cs[j]? := by
  refine ⟨by simp; omega, fun j => ?_⟩
  simp only [List.getElem?_toArray]
  rw [List.append_assoc]
  have htl : (List.take o cs.toList).length = o := by simp; omega
  rcases Nat.lt_or_ge j o with h1 | h1
  · rw [List.getElem?_append_left (by omega), if_neg (by omega), List.getElem?_take_of_lt h1]; simp
  · rw [List.getElem?_append_right (by omega), htl]
    rcases Nat.lt_or_ge j (o + vs.length) with h2 | h2
    · rw [if_pos ⟨h1, h2⟩, List.getElem?_append_left (by omega)]
    · rw [if_neg (by omega), List.getElem?_append_right (by omega), List.getElem?_drop]
      rw [show o + vs.length + (j - o - vs.length) = j from by omega]; simp

section
variable {c : Cx} {N : Nat} {H : List (List Dv)} {σ : Sg} {dst : Option Tmp} {ty : TypeId} {pos : String} {after : Array Edge} {gd : Option (Nat × Bool)}
variable {ops : Array Oper} {i : Nat} {l : List Nat} {Q : Sg → List (List Dv) → Prop}

/-- A box of the call's own moves to a new block. -/
theorem WI.swap {bs : List (Option Nat)} {w w' : World} (hW : WI c bs H w) {b : Nat} (hb : c.b0.length ≤ b) (hlt : b < bs.length) {cells : Array Value} {t : TypeId} {ds : List Dv} (h1 : w'.os = w.os) (h2 : w'.tape = w.tape) (h3 : w'.output = w.output)
    (h4 : w'.heap = w.heap.push (.cells cells t)) (hl : ds.length ≤ cells.size) (hlf : ∀ x ∈ ds, leaf x = true) (hr : ∀ (i : Nat) (d : Dv) (u : Value), ds[i]? = some d → cells[i]? = some u → Rep (TT c.T bs) w d u) :
    WI c (bs.set b (some w.heap.size)) (H.set b ds) w' ∧ ∀ s v, SRep c.T bs w s v → SRep c.T (bs.set b (some w.heap.size)) w' (killS b s) v := by
  have hold : ∀ g, g < w.heap.size → w'.heap[g]? = w.heap[g]? := fun g hg => by
    rw [h4, Array.getElem?_push, if_neg (by omega)]
  have hnew : w'.heap[w.heap.size]? = some (.cells cells t) := by rw [h4]; simp
  have hsz : w'.heap.size = w.heap.size + 1 := by rw [h4]; simp
  have hmem : ∀ g, g < w.heap.size → some g ∈ bs.set b (some w.heap.size) → some g ∈ bs := fun g hg h => by
    rcases List.mem_or_eq_of_mem_set h with h | h
    · exact h
    · simp at h; omega
  have htt : ∀ g, g < w.heap.size → TT c.T (bs.set b (some w.heap.size)) g → TT c.T bs g := fun g hg h => h.imp id (hmem g hg)
  have hrep : ∀ d v, Rep (TT c.T bs) w d v → Rep (TT c.T (bs.set b (some w.heap.size))) w' d v := fun d v h => h.mono htt (fun g hg _ => hold g hg)
  have hcase : ∀ (i g : Nat), (bs.set b (some w.heap.size))[i]? = some (some g) → (i = b ∧ g = w.heap.size) ∨ (i ≠ b ∧ bs[i]? = some (some g)) := fun i g h => by
    by_cases hi : i = b
    · subst hi
      rw [List.getElem?_set_self hlt] at h
      simp at h
      exact .inl ⟨rfl, h.symm⟩
    · rw [List.getElem?_set_ne (Ne.symm hi)] at h
      exact .inr ⟨hi, h⟩
  refine ⟨⟨h1.trans hW.os, h2.trans hW.tape, h3.trans hW.output, by have := hW.size; omega, fun g hg hn => (hold g (Nat.lt_of_lt_of_le hg hW.size)).trans (hW.old g hg hn), hW.told, fun i g h => ?_, fun i g h => ?_, fun g h => ?_, fun i j g k1 k2 => ?_, by simp [hW.len],
    fun g hg vs t' hv => ?_, fun i g ds' k1 k2 => ?_⟩, fun s v hs => ?_⟩
  · rcases hcase i g h with ⟨rfl, rfl⟩ | ⟨_, h⟩
    · exact .inr ⟨hb, hW.size⟩
    · exact hW.own i g h
  · have hi : i < c.b0.length := (List.getElem?_eq_some_iff.1 h).1
    rw [List.getElem?_set_ne (by omega)]
    exact hW.ext i g h
  · obtain ⟨i, hi⟩ := List.mem_iff_getElem?.1 h
    rcases hcase i g hi with ⟨rfl, rfl⟩ | ⟨_, h⟩
    · omega
    · have := hW.blt g (List.mem_of_getElem? h); omega
  · rcases hcase i g k1 with ⟨q1, q2⟩ | ⟨n1, q1⟩ <;> rcases hcase j g k2 with ⟨r1, r2⟩ | ⟨n2, r1⟩
    · omega
    · have := hW.blt g (List.mem_of_getElem? r1); omega
    · have := hW.blt g (List.mem_of_getElem? q1); omega
    · exact hW.nd i j g q1 r1
  · obtain ⟨vs', k1, k2⟩ := hW.erow g hg vs t' hv
    exact ⟨vs', (hold g (Array.getElem?_eq_some_iff.1 k1).1).trans k1, k2⟩
  · rcases hcase i g k1 with ⟨rfl, rfl⟩ | ⟨n1, k1⟩
    · rw [List.getElem?_set_self (by rw [hW.len]; exact hlt)] at k2
      cases k2
      exact ⟨cells, t, hnew, hl, hlf, fun j d v hd hv => hrep d v (hr j d v hd hv)⟩
    · rw [List.getElem?_set_ne (Ne.symm n1)] at k2
      obtain ⟨vs, t', q1, q2, q3, q4⟩ := hW.box i g ds' k1 k2
      exact ⟨vs, t', (hold g (Array.getElem?_eq_some_iff.1 q1).1).trans q1, q2, q3, fun j d v hd hv => hrep d v (q4 j d v hd hv)⟩
  · cases s with
    | d x => exact hrep x v hs
    | p b' o =>
      simp only [killS]
      split
      · trivial
      · rename_i hne
        obtain ⟨g, k1, k2⟩ := hs
        exact ⟨g, by rw [List.getElem?_set_ne (Ne.symm hne)]; exact k1, k2⟩
    | e ds' =>
      obtain ⟨g, off, cs, t', fr, hv, hh, hn, hlf', hr'⟩ := hs
      have hg := (Array.getElem?_eq_some_iff.1 hh).1
      refine ⟨g, off, cs, t', fr, hv, (hold g hg).trans hh, fun hT => hn (htt g hg hT), hlf', fun j d hd => ?_⟩
      obtain ⟨u, hu, hr''⟩ := hr' j d hd
      exact ⟨u, hu, hrep d u hr''⟩
    | r b' n sz =>
      simp only [killS]
      split
      · trivial
      · rename_i hne
        rcases hs with ⟨k1, k2, k3⟩ | ⟨g, cp, cs, t', k1, k2, k3, hh, hs'⟩
        · exact .inl ⟨k1, k2, by rw [List.getElem?_set_ne (Ne.symm hne)]; exact k3⟩
        · exact .inr ⟨g, cp, cs, t', by rw [List.getElem?_set_ne (Ne.symm hne)]; exact k1, k2, k3, (hold g (Array.getElem?_eq_some_iff.1 hh).1).trans hh, hs'⟩
    | u => trivial

theorem killS_rep {T : Nat → Prop} {bs : List (Option Nat)} {w : World} {b : Nat} {s : Sv} {v : Value} (h : SRep T bs w s v) : SRep T bs w (killS b s) v := by
  cases s <;> simp only [killS] <;> try exact h
  · split
    · trivial
    · exact h
  · split
    · trivial
    · exact h

/-- What is appended. -/
def SrcD (c : Cx) (σ : Sg) (H : List (List Dv)) (x : Operand) (tx : TypeId) (m sz : Nat) (ns : List Dv) : Prop :=
  ∀ (bs : List (Option Nat)) (a : Act) (w : World), WI c bs H w → (∀ s, evS σ x = some s → SRep c.T bs w s (a.eval x)) →
    ∃ news, Src c.P sz tx (a.eval x) m news w ∧ ns.length = m * sz ∧ (∀ d ∈ ns, leaf d = true) ∧ ∀ (k : Nat) (d : Dv) (u : Value), ns[k]? = some d → news[k]? = some u → Rep (TT c.T bs) w d u

theorem SrcD.sl {x : Operand} {tx : TypeId} {sz n : Nat} {ys : List (List Dv)} (hsz : 0 < sz) (hx : evS σ x = some (.d (.sl ys))) (ht : elemB c.P tx = some n) (hy : ∀ y ∈ ys, y.length = sz) : SrcD c σ H x tx ys.length sz ys.flatten := by
  intro bs a w hW hs
  obtain ⟨e, hu, _⟩ := elem_u ht
  obtain ⟨f1, f2⟩ := flatten_at hsz ys hy
  rcases Rep.sl_inv (hs _ hx) with ⟨rfl, A, cp, hv⟩ | ⟨g, off, cp, sz', cells, e', fr, u, hv, k0, k1, k2, k3, k4, k5, k6, k7⟩
  · refine ⟨[], ?_, by simp, by simp, by simp⟩
    rw [hv]
    cases A with
    | none => exact Src.ofNil w hu cp
    | some ad => exact Src.ofSlice w hu ad 0 cp [] (by simp) (by simp) (by simp)
  · have hszz : sz' = sz := by
      obtain ⟨y, hy'⟩ := List.exists_mem_of_length_pos k0
      rw [← k4 y hy', hy y hy']
    subst hszz
    have hfit : ∀ k, k < ys.length * sz' → cells[off + k]? = some (u (k / sz') (k % sz')) := fun k hk => by
      have h1 : k / sz' < ys.length := Nat.div_lt_of_lt_mul (by rw [Nat.mul_comm]; exact hk)
      have := k6 (k / sz') (k % sz') h1 (Nat.mod_lt _ hsz)
      rw [← this]; congr 1
      have := Nat.div_add_mod k sz'
      rw [Nat.mul_comm] at this; omega
    have hrep : ∀ (k : Nat) (d : Dv), ys.flatten[k]? = some d → Rep (TT c.T bs) w d (u (k / sz') (k % sz')) := fun k d hd => by
      rw [f2 k] at hd
      cases hq : ys[k / sz']? with
      | none => rw [hq] at hd; cases hd
      | some y => rw [hq] at hd; exact k7 _ y _ d hq hd
    have hlf : ∀ d ∈ ys.flatten, leaf d = true := fun d hd => by
      obtain ⟨y, hy', hd'⟩ := List.mem_flatten.1 hd
      exact k5 y hy' d hd'
    refine ⟨(List.range (ys.length * sz')).map fun k => u (k / sz') (k % sz'), ?_, f1, hlf, fun k d v hd hv' => ?_⟩
    · rw [hv]
      refine Src.ofSlice w hu ⟨g, off, none⟩ _ cp _ (by simp) (fun j v hj => ?_) (fun v hv' => ?_)
      · simp only [List.getElem?_map, Option.map_eq_some_iff] at hj
        obtain ⟨k, hk, rfl⟩ := hj
        have := List.getElem?_eq_some_iff.1 hk
        obtain ⟨q1, q2⟩ := this
        simp at q1 q2; subst q2
        rw [add_at]
        simp only [World.cell?, k2]
        exact hfit _ q1
      · simp only [List.mem_map, List.mem_range] at hv'
        obtain ⟨k, hk, rfl⟩ := hv'
        have hd := List.getElem?_eq_getElem (show k < ys.flatten.length by omega)
        exact (hrep k _ hd).one (hlf _ (List.getElem_mem _))
    · simp only [List.getElem?_map, Option.map_eq_some_iff] at hv'
      obtain ⟨q, hq, rfl⟩ := hv'
      have := List.getElem?_eq_some_iff.1 hq
      obtain ⟨q1, q2⟩ := this
      simp at q1 q2; subst q2
      exact hrep _ d hd

def bytesD (s : ByteArray) : List Dv := s.data.toList.map fun b => .im (.int .u8 b.toNat)
theorem SrcD.str {x : Operand} {tx : TypeId} {s : ByteArray} (hx : evS σ x = some (.d (.im (.string s)))) (ht : strB c.P tx = true) : SrcD c σ H x tx s.size 1 (bytesD s) := by
  intro bs a w hW hs
  have hv := Rep.im_inv (hs _ hx)
  refine ⟨byteCells s, ?_, ?_, ?_, fun k d u hd hu => ?_⟩
  · rw [hv]; exact Src.ofString w (strB_u ht) s
  · simp [bytesD]
  · intro d hd
    simp only [bytesD, List.mem_map] at hd
    obtain ⟨q, _, rfl⟩ := hd; rfl
  · simp only [bytesD, byteCells, List.getElem?_map, Option.map_eq_some_iff] at hd hu
    obtain ⟨q, h1, rfl⟩ := hd
    obtain ⟨q', h2, rfl⟩ := hu
    rw [h1] at h2; cases h2
    exact Rep.im rfl

theorem AO.append {t tx : TypeId} {s x : Operand} {b n sz bt m : Nat} {zs ds ns : List Dv} {H' : List (List Dv)} (ho : ops[i]? = some ⟨dst, .call ⟨.builtin .append, #[s, x], #[t, tx]⟩, ty, pos, after, none⟩) (hd : dstOk N dst = true)
    (hs : evS σ s = some (.r b n sz)) (ht : appB c.P t = some (sz, bt, zs)) (hsrc : SrcD c σ H x tx m sz ns) (hb : c.b0.length ≤ b) (hH : H[b]? = some ds) (hn : ds.length = n * sz) (hbt : (n + m) * bt ≤ 140737488355328) (hmx : n + m ≤ maxLen)
    (hH' : setAt b (ds ++ ns) H = some H') (h : AO c N ops l Q (put (.kill b :: σ) dst (.r b (n + m) sz)) H') : AO c N ops (i :: l) Q σ H := by
  refine ⟨fun R hR a w ⟨bs, hW, hN, hD, hsl⟩ => ?_⟩
  rw [wpOps_cons]
  simp only [wpOp, ho, Region.wanted, if_true]
  refine .inl ?_
  obtain ⟨e, ti, z, hu, hi, hz, e1, e2, e3, hsz, hzo, _⟩ := app_u ht
  obtain ⟨news, hSrc, hnsl, hnslf, hnsr⟩ := hsrc bs a w hW (fun s hs => ev_rep hsl x s hs)
  have hnl := hSrc.newsLen
  subst e1 e2
  obtain ⟨_, rfl⟩ := setAt_spec b _ H H' hH'
  have hmx' : ((n + m : Nat) : Int) ≤ 9223372036854775807 := by simp only [maxLen] at hmx; omega
  have hexec : ∀ (v : Value) (w' : World), (Builtin.append_ #[t, tx] ty #[a.eval s, a.eval x]).run c.P w = .ok v w' → (execOp a.eval ⟨dst, .call ⟨.builtin .append, #[s, x], #[t, tx]⟩, ty, pos, after, none⟩).run c.P w = .ok (.value v) w' := by
    intro v w' h
    simp [execOp, resolve, invoke, builtin, h]
  -- where a new row is laid
  have grow : ∀ (olds : List Value) (base : Option Addr) (cp : Nat), a.eval s = .slice base n cp → cp < n + m → olds.length = n * ti.size → b < bs.length → (Builtin.firstCells ti.size n (.slice base n cp)).run c.P w.drew = .ok olds.toArray w.drew →
      (∀ (k : Nat) (d : Dv) (u : Value), ds[k]? = some d → olds[k]? = some u → Rep (TT c.T bs) w d u) → (∀ d ∈ ds, leaf d = true) →
      Oper.wp c.P (⟨dst, .call ⟨.builtin .append, #[s, x], #[t, tx]⟩, ty, pos, after, none⟩ : Oper) a w (wpOps c.P ops R l) R := by
    intro olds base cp hev hlt hol hbl hfirst hor holf
    have hrun := run_append_grow_src (P := c.P) w t tx ty e ti z hu hi hz base n cp olds hfirst (a.eval x) m news hSrc hlt hmx' (growslice_fits hlt hbt)
    rw [← hev] at hrun
    have hge := grownCap_ge w (n + m) cp e
    unfold Oper.wp
    rw [hexec _ _ hrun]
    simp only [Oper.upon]
    have hcsz : ((olds ++ news).toArray ++ Builtin.zeroCells z.cells (grownCap w (n + m) cp e - (n + m))).size = grownCap w (n + m) cp e * ti.size := by
      simp only [Array.size_append, List.size_toArray, List.length_append, size_zeroCells, e3, hol, hnl, ← Nat.add_mul]
      congr 1; omega
    obtain ⟨hW', hS'⟩ := hW.swap (w' := w.drew.alloc (.cells ((olds ++ news).toArray ++ Builtin.zeroCells z.cells (grownCap w (n + m) cp e - (n + m))) e)) hb hbl (cells := (olds ++ news).toArray ++ Builtin.zeroCells z.cells (grownCap w (n + m) cp e - (n + m))) (t := e) (ds := ds ++ ns) rfl rfl rfl rfl
      (by rw [hcsz, List.length_append, hn, hnsl, ← Nat.add_mul]; exact Nat.mul_le_mul_right _ hge)
      (fun d hd => (List.mem_append.1 hd).elim (holf d) (hnslf d))
      (fun k d u hd hu => by
        rcases Nat.lt_or_ge k ds.length with hk | hk
        · rw [List.getElem?_append_left hk] at hd
          rw [Array.getElem?_append_left (by simp; omega)] at hu
          rw [List.getElem?_toArray, List.getElem?_append_left (by omega)] at hu
          exact hor k d u hd hu
        · rw [List.getElem?_append_right hk] at hd
          have hkl := (List.getElem?_eq_some_iff.1 hd).1
          rw [Array.getElem?_append_left (by simp; omega)] at hu
          rw [List.getElem?_toArray, List.getElem?_append_right (by omega)] at hu
          exact hnsr _ d u hd (by rw [hn]; rw [hol] at hu; exact hu))
    refine h.out R hR _ _ ⟨_, hW', by rw [Act.put_size]; exact hN, by rw [Act.put_defers']; exact hD, ?_⟩
    refine slots_put hN hd ?_ (fun t s ht => ?_)
    · exact .inr ⟨w.heap.size, _, _, e, by rw [List.getElem?_set_self hbl], rfl, hge, Array.getElem?_push_size, by rw [hcsz]; exact Nat.le_refl _⟩
    · rw [lk_kill] at ht
      simp only [Option.map_eq_some_iff] at ht
      obtain ⟨s', hs', rfl⟩ := ht
      exact hS' s' _ (hsl t s' hs')
  rcases ev_rep hsl s _ hs with ⟨hn0, hv, hbn⟩ | ⟨g, cp, cells, t', hbg, hv, hnc, hh, hcs⟩
  · subst hn0
    have hds : ds = [] := List.eq_nil_of_length_eq_zero (by simpa using hn)
    subst hds
    have hbl := (List.getElem?_eq_some_iff.1 hbn).1
    by_cases hm : m = 0
    · subst hm
      have hns : ns = [] := List.eq_nil_of_length_eq_zero (by simpa using hnsl)
      subst hns
      have hnews : news = [] := List.eq_nil_of_length_eq_zero (by simpa using hnl)
      subst hnews
      unfold Oper.wp
      have hrun : (Builtin.append_ #[t, tx] ty #[.slice none 0 0, a.eval x]).run c.P w = .ok (.slice none 0 0) w := by
        rcases hSrc.kind with ⟨e', hk⟩ | hk <;> simp [Builtin.append_, run_underlying hu, run_underlying hk, sizeOf, typeInfo, hi, hSrc.len, hSrc.cells, storeCells]
      rw [hexec _ _ (by rw [hv]; exact hrun)]
      simp only [Oper.upon]
      have hHs : H.set b ([] ++ []) = H := by
        have := (List.getElem?_eq_some_iff.1 hH)
        obtain ⟨q1, q2⟩ := this
        simp only [List.append_nil]
        conv => lhs; rw [← q2]
        exact List.set_getElem_self q1
      rw [hHs] at h
      refine h.out R hR _ _ ⟨bs, hW, by rw [Act.put_size]; exact hN, by rw [Act.put_defers']; exact hD, ?_⟩
      refine slots_put hN hd (.inl ⟨rfl, rfl, hbn⟩) (fun t s ht => ?_)
      rw [lk_kill] at ht
      simp only [Option.map_eq_some_iff] at ht
      obtain ⟨s', hs', rfl⟩ := ht
      exact killS_rep (hsl t s' hs')
    · exact grow [] none 0 hv (by omega) (by simp) hbl (by rw [run_firstCells_none]) (by simp) (by simp)
  · have hbl := (List.getElem?_eq_some_iff.1 hbg).1
    obtain ⟨cs, t2, k1, k2, k3, k4⟩ := hW.box b g ds hbg hH
    rw [hh] at k1
    cases k1
    by_cases hroom : n + m ≤ cp
    · have hfit : n * ti.size + news.length ≤ cells.size := by
        rw [hnl, ← Nat.add_mul]; exact Nat.le_trans (Nat.mul_le_mul_right _ hroom) hcs
      have hrun := run_append_room_src (P := c.P) w t tx ty e ti hu hi g 0 n cp (a.eval x) m news hSrc hroom (fun j hj => by
        have : 0 + n * ti.size + j < cells.size := by omega
        simp [World.cell?, hh]; omega) (fun j hj => by simp [World.frozen?, hh])
      rw [Nat.zero_add, setRow_cells (P := c.P) hh hfit hSrc.one] at hrun
      obtain ⟨m1, m2⟩ := mid_at hfit
      unfold Oper.wp
      rw [hexec _ _ (by rw [hv]; exact hrun)]
      simp only [Oper.upon]
      obtain ⟨hW', hE⟩ := hW.reset hbg hh m1 (ds := ds ++ ns) (by
          rw [m1, List.length_append, hn, hnsl, ← Nat.add_mul]; exact Nat.le_trans (Nat.mul_le_mul_right _ hroom) hcs)
        (fun d hd => (List.mem_append.1 hd).elim (k3 d) (hnslf d))
        (fun k d u hd hu => by
          rw [m2 k] at hu
          rcases Nat.lt_or_ge k ds.length with hk | hk
          · rw [List.getElem?_append_left hk] at hd
            rw [if_neg (by omega)] at hu
            exact k4 k d u hd hu
          · rw [List.getElem?_append_right hk] at hd
            have hkl := (List.getElem?_eq_some_iff.1 hd).1
            rw [if_pos (by omega)] at hu
            exact hnsr _ d u hd (by rw [hn]; exact hu))
      refine h.out R hR _ _ ⟨bs, hW', by rw [Act.put_size]; exact hN, by rw [Act.put_defers']; exact hD, ?_⟩
      refine slots_put hN hd ?_ (fun t s ht => ?_)
      · exact .inr ⟨g, cp, _, t', hbg, rfl, hroom, setRow_heap w g cells _ t' _ hh, by rw [m1]; exact hcs⟩
      · rw [lk_kill] at ht
        simp only [Option.map_eq_some_iff] at ht
        obtain ⟨s', hs', rfl⟩ := ht
        exact killS_rep ((hsl t s' hs').ext hE)
    · have hle : n * ti.size ≤ cells.size := by rw [← hn]; exact k2
      refine grow (cells.toList.take (n * ti.size)) (some ⟨g, 0, none⟩) cp hv (by omega) (by simp; omega) hbl ?_ (fun k d u hd hu => ?_) k3
      · refine run_firstCells_some (P := c.P) w.drew ti.size n ⟨g, 0, none⟩ n cp _ (by simp; omega) (fun j v hj => ?_)
        rw [add_at, Nat.zero_add]
        rw [List.getElem?_take] at hj
        split at hj
        · have hh' : w.drew.heap[g]? = some (.cells cells t' (0, 0)) := hh
          simp only [World.cell?, hh']; simpa using hj
        · cases hj
      · rw [List.getElem?_take] at hu
        split at hu
        · exact k4 k d u hd (by simpa using hu)
        · cases hu

theorem AO.make {t : TypeId} {x y : Operand} {k1 k2 : IntKind} {l' cp : Int} {sz bt : Nat} {zs : List Dv} (ho : ops[i]? = some ⟨dst, .makeSlice t x y, ty, pos, after, none⟩) (hd : dstOk N dst = true)
    (hx : evS σ x = some (.d (.im (.int k1 l')))) (hy : evS σ y = some (.d (.im (.int k2 cp)))) (ht : appB c.P t = some (sz, bt, zs)) (h0 : 0 ≤ l') (h1 : l' ≤ cp) (h2 : (bt : Int) * cp ≤ 281474976710656) (h3 : cp ≤ 9223372036854775807)
    (h : AO c N ops l Q (put σ dst (.r H.length l'.toNat sz)) (H ++ [(List.replicate l'.toNat zs).flatten])) : AO c N ops (i :: l) Q σ H := by
  obtain ⟨e, ti, z, hu, hi, hz, e1, e2, e3, hsz, hzo, hzs⟩ := app_u ht
  subst e1 e2
  refine AO.new ho rfl hd (fun bs a w hW hops => ?_) h
  have ex := Rep.im_inv (hops x (by simp [Op.operands]) _ hx)
  have ey := Rep.im_inv (hops y (by simp [Op.operands]) _ hy)
  have hr := run_make (P := c.P) w t e ti z hu hi hz k1 k2 l' cp h0 h1 h2 h3
  have hzl : zs.length = ti.size := by rw [hzs]; simp [e3]
  obtain ⟨f1, f2⟩ := flatten_at hsz (List.replicate l'.toNat zs) (fun y hy => by rw [(List.mem_replicate.1 hy).2]; exact hzl)
  have hle : l'.toNat * ti.size ≤ cp.toNat * ti.size := Nat.mul_le_mul_right _ (by omega)
  refine ⟨madeCells z.cells (cp.toNat * ti.size), e, .slice (some ⟨w.heap.size, 0, none⟩) l'.toNat cp.toNat, ?_, ?_, ?_, fun k d u hd' hu' => ?_, ?_⟩
  · simp [execOp, ex, ey, hr]
  · rw [f1, size_madeCells]; simpa using hle
  · intro d hd'
    obtain ⟨y, hy', hd''⟩ := List.mem_flatten.1 hd'
    rw [(List.mem_replicate.1 hy').2, hzs] at hd''
    obtain ⟨u, hu', rfl⟩ := List.mem_map.1 hd''
    exact ofV_leaf (hzo u (by simpa using hu'))
  · have hk : k < l'.toNat * ti.size := by have := (List.getElem?_eq_some_iff.1 hd').1; rw [f1] at this; simpa using this
    rw [f2 k] at hd'
    have hq : (List.replicate l'.toNat zs)[k / ti.size]? = some zs := by
      rw [List.getElem?_replicate, if_pos (Nat.div_lt_of_lt_mul (by rw [Nat.mul_comm]; exact hk))]
    rw [hq] at hd'
    simp only [Option.bind_some, hzs, List.getElem?_map, Option.map_eq_some_iff] at hd'
    obtain ⟨u', hu1, rfl⟩ := hd'
    have hlt : k < cp.toNat * ti.size := by omega
    have hu2 : (madeCells z.cells (cp.toNat * ti.size))[k]? = some u' := by
      have hmod : k % z.cells.size < z.cells.size := Nat.mod_lt _ (by omega)
      have : z.cells[k % z.cells.size]? = some u' := by rw [e3]; simpa using hu1
      rw [Array.getElem?_eq_getElem hmod] at this
      simp [madeCells, hlt, getElem!_pos, hmod] at this ⊢
      exact this
    rw [hu2] at hu'
    cases hu'
    exact ofV_rep _ w (hzo _ (by have := List.mem_of_getElem? hu1; simpa using this))
  · refine .inr ⟨w.heap.size, cp.toNat, _, e, by rw [hW.len]; simp, rfl, by omega, Array.getElem?_push_size, by rw [size_madeCells]; exact Nat.le_refl _⟩

/-! ### 14. A row that is written no more -/
theorem St.freeze {a : Act} {w : World} {t b n sz : Nat} {xs : List (List Dv)} {ds : List Dv} (hS : St c N σ H a w) (ht : lk σ t = some (.r b n sz)) (hb : c.b0.length ≤ b) (hH : H[b]? = some ds) (hsz : 0 < sz) (hl : ∀ x ∈ xs, x.length = sz) (hn : n = xs.length)
    (hx : ds.take (n * sz) = xs.flatten) : St c N (Ent.put t (.d (.sl xs)) :: .kill b :: σ) H a w := by
  obtain ⟨bs, hW, hN, hD, hs⟩ := hS
  have hblt : b < bs.length := by rw [← hW.len]; exact (List.getElem?_eq_some_iff.1 hH).1
  have hcase : ∀ (i g : Nat), (bs.set b none)[i]? = some (some g) → i ≠ b ∧ bs[i]? = some (some g) := fun i g h => by
    by_cases hi : i = b
    · subst hi; rw [List.getElem?_set_self hblt] at h; simp at h
    · rw [List.getElem?_set_ne (Ne.symm hi)] at h; exact ⟨hi, h⟩
  have hmem : ∀ g, some g ∈ bs.set b none → some g ∈ bs ∧ bs[b]? ≠ some (some g) := fun g h => by
    obtain ⟨i, hi⟩ := List.mem_iff_getElem?.1 h
    obtain ⟨h1, h2⟩ := hcase i g hi
    exact ⟨List.mem_of_getElem? h2, fun h3 => h1 (hW.nd i b g h2 h3)⟩
  have htt : ∀ g, TT c.T (bs.set b none) g → TT c.T bs g := fun g h => h.imp id (fun h => (hmem g h).1)
  have hrep : ∀ d v, Rep (TT c.T bs) w d v → Rep (TT c.T (bs.set b none)) w d v := fun d v h => h.mono (fun g _ => htt g) (fun _ _ _ => rfl)
  have hW' : WI c (bs.set b none) H w := by
    refine ⟨hW.os, hW.tape, hW.output, hW.size, hW.old, hW.told, fun i g h => hW.own i g (hcase i g h).2, fun i g h => ?_, fun g h => hW.blt g (hmem g h).1, fun i j g h1 h2 => hW.nd i j g (hcase i g h1).2 (hcase j g h2).2, by simp [hW.len], hW.erow, fun i g ds h1 h2 => ?_⟩
    · have hi : i < c.b0.length := (List.getElem?_eq_some_iff.1 h).1
      rw [List.getElem?_set_ne (by omega)]; exact hW.ext i g h
    · obtain ⟨vs, t, k1, k2, k3, k4⟩ := hW.box i g ds (hcase i g h1).2 h2
      exact ⟨vs, t, k1, k2, k3, fun j d v hd hv => hrep d v (k4 j d v hd hv)⟩
  refine ⟨bs.set b none, hW', hN, hD, fun t' s' ht' => ?_⟩
  rw [lk] at ht'
  split at ht'
  · rename_i he
    subst he
    cases ht'
    obtain ⟨f1, f2⟩ := flatten_at hsz xs hl
    rcases hs t' _ ht with ⟨hn0, hv, _⟩ | ⟨g, cp, cells, t2, hbg, hv, hnc, hh, hcs⟩
    · have hx0 : xs = [] := List.eq_nil_of_length_eq_zero (by omega)
      subst hx0
      show Rep _ _ _ _
      rw [hv]; exact .sl0
    · show Rep _ _ _ _
      rw [hv]
      obtain ⟨cs, t3, k1, k2, k3, k4⟩ := hW.box b g ds hbg hH
      rw [hh] at k1; cases k1
      rcases Nat.eq_zero_or_pos n with h0 | h0
      · have hx0 : xs = [] := List.eq_nil_of_length_eq_zero (by omega)
        subst hx0
        rw [h0]; exact .sl0
      · have hT : ¬ TT c.T (bs.set b none) g := by
          rintro (hT | hT)
          · have h1 := hW.told g hT
            rcases hW.own b g hbg with h2 | h2
            · have := (List.getElem?_eq_some_iff.1 h2).1; omega
            · omega
          · exact (hmem g hT).2 hbg
        have hfl : (xs.flatten).length ≤ ds.length := by rw [← hx]; simp; omega
        have hds : ∀ k d, xs.flatten[k]? = some d → ds[k]? = some d := fun k d hd => by
          rw [← hx, List.getElem?_take] at hd
          split at hd
          · exact hd
          · cases hd
        have hij : ∀ i j, i < xs.length → j < sz → i * sz + j < xs.flatten.length := fun i j hi hj => by
          rw [f1]
          have : (i + 1) * sz ≤ xs.length * sz := Nat.mul_le_mul_right _ hi
          rw [Nat.add_mul] at this; omega
        rw [hn]
        refine Rep.sl1 (g := g) (off := 0) (sz := sz) (cells := cells) (u := fun i j => cells.getD (i * sz + j) undef) (by omega) (by omega) hh hT hl (fun x hx' d hd => ?_) (fun i j hi hj => ?_) (fun i x j d hx' hd => ?_)
        · refine k3 d ?_
          have : d ∈ xs.flatten := List.mem_flatten.2 ⟨x, hx', hd⟩
          rw [← hx] at this
          exact List.mem_of_mem_take this
        · have := hij i j hi hj
          rw [Nat.zero_add, Array.getD_eq_getD_getElem?, Array.getElem?_eq_getElem (by omega)]; rfl
        · have hi : i < xs.length := (List.getElem?_eq_some_iff.1 hx').1
          have hj : j < sz := by rw [← hl x (List.mem_of_getElem? hx')]; exact (List.getElem?_eq_some_iff.1 hd).1
          have hk := hij i j hi hj
          have hd' : xs.flatten[i * sz + j]? = some d := by
            rw [f2, Nat.mul_comm, Nat.mul_add_div hsz, Nat.mul_add_mod, Nat.div_eq_of_lt hj, Nat.mod_eq_of_lt hj, Nat.add_zero, hx']
            exact hd
          have hc : cells[i * sz + j]? = some (cells[i * sz + j]'(by omega)) := Array.getElem?_eq_getElem _
          show Rep _ _ _ (cells.getD (i * sz + j) undef)
          rw [Array.getD_eq_getD_getElem?, hc]
          exact hrep d _ (k4 _ d _ (hds _ d hd') hc)
  · rw [lk_kill] at ht'
    simp only [Option.map_eq_some_iff] at ht'
    obtain ⟨s0, hs0, rfl⟩ := ht'
    have h0 := hs t' s0 hs0
    cases s0 with
    | d x => exact hrep x _ h0
    | p b' o =>
      simp only [killS]
      split
      · trivial
      · rename_i hne
        obtain ⟨g, k1, k2⟩ := h0
        exact ⟨g, by rw [List.getElem?_set_ne (Ne.symm hne)]; exact k1, k2⟩
    | e ds' =>
      obtain ⟨g, off, cs, t', fr, hv, hh, hn, hlf', hr'⟩ := h0
      refine ⟨g, off, cs, t', fr, hv, hh, fun hT => hn (htt g hT), hlf', fun j d hd => ?_⟩
      obtain ⟨u, hu, hr''⟩ := hr' j d hd
      exact ⟨u, hu, hrep d u hr''⟩
    | r b' n sz =>
      simp only [killS]
      split
      · trivial
      · rename_i hne
        rcases h0 with ⟨k1, k2, k3⟩ | ⟨g, cp, cs, t', k1, k2, k3, hh, hs'⟩
        · exact .inl ⟨k1, k2, by rw [List.getElem?_set_ne (Ne.symm hne)]; exact k3⟩
        · exact .inr ⟨g, cp, cs, t', by rw [List.getElem?_set_ne (Ne.symm hne)]; exact k1, k2, k3, hh, hs'⟩
    | u => trivial

theorem AO.freeze (t : Nat) {b n sz : Nat} {xs : List (List Dv)} {ds : List Dv} (ht : lk σ t = some (.r b n sz)) (hb : c.b0.length ≤ b) (hH : H[b]? = some ds) (hsz : 0 < sz) (hl : ∀ x ∈ xs, x.length = sz) (hn : n = xs.length)
    (hx : ds.take (n * sz) = xs.flatten) (h : AO c N ops l Q (Ent.put t (.d (.sl xs)) :: .kill b :: σ) H) : AO c N ops l Q σ H :=
  ⟨fun R hR a w hS => h.out R hR a w (hS.freeze ht hb hH hsz hl hn hx)⟩
theorem AW.freeze (t : Nat) {x : Code} {Q : Ax → Sg → List (List Dv) → Prop} {b n sz : Nat} {xs : List (List Dv)} {ds : List Dv} (ht : lk σ t = some (.r b n sz)) (hb : c.b0.length ≤ b) (hH : H[b]? = some ds) (hsz : 0 < sz) (hl : ∀ x ∈ xs, x.length = sz) (hn : n = xs.length)
    (hx : ds.take (n * sz) = xs.flatten) (h : AW c N x Q (Ent.put t (.d (.sl xs)) :: .kill b :: σ) H) : AW c N x Q σ H :=
  ⟨fun R h1 h2 h3 a w hS => h.out R h1 h2 h3 a w (hS.freeze ht hb hH hsz hl hn hx)⟩

/-- nil, as a row of the call's own. -/
theorem St.nilRow {a : Act} {w : World} {t sz : Nat} (hS : St c N σ H a w) (ht : lk σ t = some (.d (.im (.slice none 0 0)))) : St c N (Ent.put t (.r H.length 0 sz) :: σ) (H ++ [[]]) a w := by
  obtain ⟨bs, hW, hN, hD, hs⟩ := hS
  have hget : ∀ (i g : Nat), (bs ++ [none])[i]? = some (some g) → bs[i]? = some (some g) := fun i g h => by
    rcases Nat.lt_or_ge i bs.length with hi | hi
    · rwa [List.getElem?_append_left hi] at h
    · rw [List.getElem?_append_right hi] at h
      exfalso
      rcases Nat.eq_zero_or_pos (i - bs.length) with h0 | h0
      · rw [h0] at h; simp at h
      · rw [List.getElem?_eq_none (by simp; omega)] at h; cases h
  have hput : ∀ (i : Nat) (g : Option Nat), bs[i]? = some g → (bs ++ [none])[i]? = some g := fun i g h => by
    rw [List.getElem?_append_left (List.getElem?_eq_some_iff.1 h).1]; exact h
  have hmem : ∀ g, some g ∈ bs ++ [none] → some g ∈ bs := fun g h => by simpa using h
  have hrep : ∀ d v, Rep (TT c.T bs) w d v → Rep (TT c.T (bs ++ [none])) w d v := fun d v h => h.mono (fun g _ h => h.imp id (hmem g)) (fun _ _ _ => rfl)
  refine ⟨bs ++ [none], ⟨hW.os, hW.tape, hW.output, hW.size, hW.old, hW.told, fun i g h => hW.own i g (hget i g h), fun i g h => hput i _ (hW.ext i g h), fun g h => hW.blt g (hmem g h), fun i j g h1 h2 => hW.nd i j g (hget i g h1) (hget j g h2), by simp [hW.len], hW.erow, fun i g ds h1 h2 => ?_⟩, hN, hD, fun t' s' ht' => ?_⟩
  · have h1' := hget i g h1
    rw [List.getElem?_append_left (by rw [hW.len]; exact (List.getElem?_eq_some_iff.1 h1').1)] at h2
    obtain ⟨vs, t, k1, k2, k3, k4⟩ := hW.box i g ds h1' h2
    exact ⟨vs, t, k1, k2, k3, fun j d v hd hv => hrep d v (k4 j d v hd hv)⟩
  · simp only [lk] at ht'
    split at ht'
    · rename_i he
      subst he; cases ht'
      exact .inl ⟨rfl, Rep.im_inv (hs t' _ ht), by rw [hW.len]; simp⟩
    · have h0 := hs t' s' ht'
      cases s' with
      | d x => exact hrep x _ h0
      | p b' o =>
        obtain ⟨g, k1, k2⟩ := h0
        exact ⟨g, hput _ _ k1, k2⟩
      | e ds' =>
        obtain ⟨g, off, cs, t', fr, hv, hh, hn, hlf', hr'⟩ := h0
        refine ⟨g, off, cs, t', fr, hv, hh, fun hT => hn (hT.imp id (hmem g)), hlf', fun j d hd => ?_⟩
        obtain ⟨u, hu, hr''⟩ := hr' j d hd
        exact ⟨u, hu, hrep d u hr''⟩
      | r b' n sz =>
        rcases h0 with ⟨k1, k2, k3⟩ | ⟨g, cp, cs, t', k1, k2, k3, hh, hs'⟩
        · exact .inl ⟨k1, k2, hput _ _ k3⟩
        · exact .inr ⟨g, cp, cs, t', hput _ _ k1, k2, k3, hh, hs'⟩
      | u => trivial
theorem AO.nilRow (t sz : Nat) (ht : lk σ t = some (.d (.im (.slice none 0 0)))) (h : AO c N ops l Q (Ent.put t (.r H.length 0 sz) :: σ) (H ++ [[]])) : AO c N ops l Q σ H :=
  ⟨fun R hR a w hS => h.out R hR a w (hS.nilRow ht)⟩
theorem AW.nilRow (t sz : Nat) {x : Code} {Q : Ax → Sg → List (List Dv) → Prop} (ht : lk σ t = some (.d (.im (.slice none 0 0)))) (h : AW c N x Q (Ent.put t (.r H.length 0 sz) :: σ) (H ++ [[]])) : AW c N x Q σ H :=
  ⟨fun R h1 h2 h3 a w hS => h.out R h1 h2 h3 a w (hS.nilRow ht)⟩

end
end Go.Proofs.Ytgafdhpagifpcaa.Av
