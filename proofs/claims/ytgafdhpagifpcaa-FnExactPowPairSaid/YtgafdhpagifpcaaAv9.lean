/-
  OWN WORK. The calculus: equality as a Bool, strings, slices of slices, literals of slices.
-/
import Derived.Test.YtgafdhpagifpcaaAv8
import Derived.Laws.Strings
import Derived.Laws.Small
namespace Go.Proofs.Ytgafdhpagifpcaa.Av
open Go Go.RowKit
set_option linter.unusedVariables false
set_option linter.unusedSimpArgs false

/-- A sentence as a Bool. -/
noncomputable def eqP (p : Prop) : Bool := @decide p (Classical.propDecidable p)
theorem eqP_iff {p : Prop} : eqP p = true ↔ p := by unfold eqP; exact @decide_eq_true_iff p (Classical.propDecidable p)
theorem eqP_false {p : Prop} : eqP p = false ↔ ¬ p := by unfold eqP; exact @decide_eq_false_iff_not p (Classical.propDecidable p)
theorem eqP_yes {p : Prop} (h : p) : eqP p = true := eqP_iff.2 h
theorem eqP_no {p : Prop} (h : ¬ p) : eqP p = false := eqP_false.2 h
theorem eqP_congr {p q : Prop} (h : p ↔ q) : eqP p = eqP q := by rw [propext h]
theorem not_eqP {p : Prop} : (!eqP p) = eqP (¬ p) := by
  by_cases h : p
  · rw [eqP_yes h, eqP_no (fun k => k h)]; rfl
  · rw [eqP_no h, eqP_yes h]; rfl

theorem notT {b : Bool} (h : (!b) = true) : b = false := by simpa using h
theorem notF {b : Bool} (h : (!b) = false) : b = true := by simpa using h
theorem str_eq {x y : ByteArray} : (x.toList == y.toList) = eqP (x = y) := by
  by_cases h : x = y
  · rw [eqP_yes h, h]; simp
  · rw [eqP_no h]
    apply beq_eq_false_iff_ne.2
    intro e
    apply h
    rw [ByteArray.toList_eq, ByteArray.toList_eq] at e
    exact ByteArray.ext (Array.ext' e)

section
variable {c : Cx} {N : Nat} {H : List (List Dv)} {σ : Sg} {dst : Option Tmp} {ty : TypeId} {pos : String} {after : Array Edge} {gd : Option (Nat × Bool)}
variable {ops : Array Oper} {i : Nat} {l : List Nat} {Q : Sg → List (List Dv) → Prop}

theorem XS.strEq {t u : TypeId} {x y : Operand} {m n : ByteArray} (hx : evS σ x = some (.d (.im (.string m)))) (hy : evS σ y = some (.d (.im (.string n)))) :
    XS c ⟨dst, .binOp .eql t x y u, ty, pos, after, gd⟩ H σ (.d (.im (.bool (eqP (m = n))))) := by
  have := XS.str (c := c) (H := H) (dst := dst) (ty := ty) (pos := pos) (after := after) (gd := gd) (op := .eql) (t := t) (u := u) hx hy rfl
  rwa [str_eq] at this
theorem XS.strNe {t u : TypeId} {x y : Operand} {m n : ByteArray} (hx : evS σ x = some (.d (.im (.string m)))) (hy : evS σ y = some (.d (.im (.string n)))) :
    XS c ⟨dst, .binOp .neq t x y u, ty, pos, after, gd⟩ H σ (.d (.im (.bool (eqP (m ≠ n))))) := by
  have := XS.str (c := c) (H := H) (dst := dst) (ty := ty) (pos := pos) (after := after) (gd := gd) (op := .neq) (t := t) (u := u) hx hy rfl
  rwa [str_eq, not_eqP] at this

/-! ### Rows of more than one cell each -/
theorem setO_zero : ∀ (y x rest : List Dv), y.length = x.length → setO 0 y (x ++ rest) = some (y ++ rest)
  | [], [], rest, _ => by cases rest <;> rfl
  | d :: y, e :: x, rest, h => by simp [setO, setO_zero y x rest (by simpa using h)]
  | [], _ :: _, _, h => by simp at h
  | _ :: _, [], _, h => by simp at h
theorem setO_skip : ∀ (x : List Dv) (o : Nat) (y rest r : List Dv), setO o y rest = some r → setO (x.length + o) y (x ++ rest) = some (x ++ r)
  | [], o, y, rest, r, h => by simpa using h
  | e :: x, o, y, rest, r, h => by
    have := setO_skip x o y rest r h
    have e1 : (e :: x).length + o = (x.length + o) + 1 := by simp; omega
    rw [e1]
    simp [setO, this]
theorem setO_flat {sz : Nat} {y : List Dv} (hy : y.length = sz) : ∀ (xs : List (List Dv)) (j : Nat), (∀ x ∈ xs, x.length = sz) → j < xs.length → setO (j * sz) y xs.flatten = some ((xs.set j y).flatten)
  | [], j, _, h => by simp at h
  | x :: xs, 0, h, _ => by
    have := setO_zero y x xs.flatten (by rw [hy, h x List.mem_cons_self])
    simpa using this
  | x :: xs, j + 1, h, hj => by
    have ih := setO_flat hy xs j (fun z hz => h z (List.mem_cons_of_mem _ hz)) (by simpa using hj)
    have := setO_skip x (j * sz) y xs.flatten _ ih
    rw [h x List.mem_cons_self] at this
    have e1 : (j + 1) * sz = sz + j * sz := by rw [Nat.add_mul]; omega
    rw [e1]
    simpa using this
theorem XS.indexRN {t : TypeId} {x y : Operand} {k : IntKind} {b j n sz : Nat} (hx : evS σ x = some (.r b n sz)) (hy : evS σ y = some (.d (.im (.int k (j : Int))))) (ht : elemB c.P t = some sz) (hj : j < n) :
    XS c ⟨dst, .indexAddr t x y, ty, pos, after, gd⟩ H σ (.p b (j * sz)) := by
  have := XS.indexR (c := c) (H := H) (dst := dst) (ty := ty) (pos := pos) (after := after) (gd := gd) hx hy ht (by omega) (by omega)
  simpa using this
theorem AO.storeR {t : TypeId} {p x : Operand} {b j sz : Nat} {d : Dv} {cl : List Dv} {xs : List (List Dv)} {H' : List (List Dv)} (ho : ops[i]? = some ⟨none, .store t p x, ty, pos, after, none⟩) (hp : evS σ p = some (.p b (j * sz))) (hx : evS σ x = some (.d d))
    (hc : clO (wk d) = some cl) (hn : szB c.P t = some sz) (hcl : cl.length = sz) (hH : H[b]? = some xs.flatten) (hall : ∀ x ∈ xs, x.length = sz) (hlt : j < xs.length) (hH' : setAt b ((xs.set j cl).flatten) H = some H') (h : AO c N ops l Q σ H') : AO c N ops (i :: l) Q σ H :=
  AO.store ho hp hx hc hn hcl hH (setO_flat hcl xs j hall hlt) hH' h
theorem AO.makeN {t : TypeId} {x y : Operand} {k1 k2 : IntKind} {l' cp sz : Nat} {bt : Nat} {zs : List Dv} (ho : ops[i]? = some ⟨dst, .makeSlice t x y, ty, pos, after, none⟩) (hd : dstOk N dst = true)
    (hx : evS σ x = some (.d (.im (.int k1 (l' : Int))))) (hy : evS σ y = some (.d (.im (.int k2 (cp : Int))))) (ht : appB c.P t = some (sz, bt, zs)) (h1 : l' ≤ cp) (h2 : bt * cp ≤ 281474976710656) (h3 : cp ≤ 9223372036854775807)
    (h : AO c N ops l Q (put σ dst (.r H.length l' sz)) (H ++ [(List.replicate l' zs).flatten])) : AO c N ops (i :: l) Q σ H := by
  refine AO.make ho hd hx hy ht (by omega) (by omega) ?_ (by omega) h
  have : ((bt * cp : Nat) : Int) ≤ 281474976710656 := by omega
  rwa [Int.natCast_mul] at this
theorem AW.freezeM {α : Type} {f : α → List Dv} {ps : List α} (t : Nat) {x : Code} {Q : Ax → Sg → List (List Dv) → Prop} {b n sz : Nat} (ht : lk σ t = some (.r b n sz)) (hb : c.b0.length ≤ b) (hH : H[b]? = some (ps.map f).flatten) (hsz : 0 < sz) (hl : ∀ a ∈ ps, (f a).length = sz) (hn : n = ps.length)
    (h : AW c N x Q (.put t (.d (.sl (ps.map f))) :: .kill b :: σ) H) : AW c N x Q σ H := by
  have hl' : ∀ y ∈ ps.map f, y.length = sz := fun y hy => by obtain ⟨a, ha, rfl⟩ := List.mem_map.1 hy; exact hl a ha
  have hf := (flatten_at hsz _ hl').1
  refine AW.freeze t ht hb hH hsz hl' (by simp [hn]) ?_ h
  rw [hn]
  exact List.take_of_length_le (by rw [hf]; simp)
def fillR {α : Type} (f : α → List Dv) (z : List Dv) (xs : List α) (i : Nat) : List (List Dv) := (xs.take i).map f ++ List.replicate (xs.length - i) z
theorem fillR_len {α : Type} {f : α → List Dv} {z : List Dv} {xs : List α} {i : Nat} (h : i ≤ xs.length) : (fillR f z xs i).length = xs.length := by simp [fillR]; omega
theorem fillR_zero {α : Type} (f : α → List Dv) (z : List Dv) (xs : List α) : fillR f z xs 0 = List.replicate xs.length z := by simp [fillR]
theorem fillR_all {α : Type} (f : α → List Dv) (z : List Dv) (xs : List α) : fillR f z xs xs.length = xs.map f := by simp [fillR]
theorem fillR_set {α : Type} {f : α → List Dv} {z : List Dv} {xs : List α} {i : Nat} (h : i < xs.length) : (fillR f z xs i).set i (f xs[i]) = fillR f z xs (i + 1) := by
  unfold fillR
  have e : xs.length - i = (xs.length - (i + 1)) + 1 := by omega
  have hl : ((xs.take i).map f).length = i := by simp; omega
  rw [List.set_append_right _ _ (by omega), hl, Nat.sub_self, e, List.replicate_succ, List.set_cons_zero, List.take_succ_eq_append_getElem h, List.map_append, List.append_assoc]
  rfl
theorem fillR_each {α : Type} {f : α → List Dv} {z : List Dv} {xs : List α} {i sz : Nat} (hf : ∀ a, (f a).length = sz) (hz : z.length = sz) : ∀ x ∈ fillR f z xs i, x.length = sz := by
  intro x hx
  simp only [fillR, List.mem_append, List.mem_map, List.mem_replicate] at hx
  rcases hx with ⟨a, _, rfl⟩ | ⟨_, rfl⟩
  · exact hf a
  · exact hz

/-! ### Boxes that are not wanted any more -/
theorem lk_trim (m : Nat) (σ : Sg) (t : Nat) : lk (.trim m :: σ) t = (lk σ t).map (trimS m) := by
  simp only [lk]
  cases lk σ t <;> rfl
theorem St.trim {a : Act} {w : World} {m : Nat} (hS : St c N σ H a w) (hm : m ≤ H.length) (hb : c.b0.length ≤ m) : St c N (.trim m :: σ) (H.take m) a w := by
  obtain ⟨bs, hW, hN, hD, hs⟩ := hS
  have hget : ∀ (i : Nat) (g : Option Nat), (bs.take m)[i]? = some g → bs[i]? = some g := fun i g h => by
    rw [List.getElem?_take] at h
    split at h
    · exact h
    · cases h
  have hput : ∀ (i : Nat) (g : Option Nat), i < m → bs[i]? = some g → (bs.take m)[i]? = some g := fun i g hi h => by
    rw [List.getElem?_take, if_pos hi]; exact h
  have hmem : ∀ g, some g ∈ bs.take m → some g ∈ bs := fun g h => List.mem_of_mem_take h
  have hrep : ∀ d v, Rep (TT c.T bs) w d v → Rep (TT c.T (bs.take m)) w d v := fun d v h => h.mono (fun g _ h => h.imp id (hmem g)) (fun _ _ _ => rfl)
  refine ⟨bs.take m, ⟨hW.os, hW.tape, hW.output, hW.size, hW.old, hW.told, fun i g h => hW.own i g (hget i _ h), fun i g h => hput i _ (by have := (List.getElem?_eq_some_iff.1 h).1; omega) (hW.ext i g h), fun g h => hW.blt g (hmem g h),
    fun i j g h1 h2 => hW.nd i j g (hget i _ h1) (hget j _ h2), by simp [hW.len], hW.erow, fun i g ds h1 h2 => ?_⟩, hN, hD, fun t' s' ht' => ?_⟩
  · rw [List.getElem?_take] at h2
    split at h2
    · obtain ⟨vs, t, k1, k2, k3, k4⟩ := hW.box i g ds (hget i _ h1) h2
      exact ⟨vs, t, k1, k2, k3, fun j d v hd hv => hrep d v (k4 j d v hd hv)⟩
    · cases h2
  · rw [lk_trim] at ht'
    simp only [Option.map_eq_some_iff] at ht'
    obtain ⟨s0, hs0, rfl⟩ := ht'
    have h0 := hs t' s0 hs0
    cases s0 with
    | d x => exact hrep x _ h0
    | p b' o =>
      simp only [trimS]
      split
      · rename_i hlt
        obtain ⟨g, k1, k2⟩ := h0
        exact ⟨g, hput _ _ hlt k1, k2⟩
      · trivial
    | e ds' =>
      obtain ⟨g, off, cs, t', fr, hv, hh, hn, hlf', hr'⟩ := h0
      refine ⟨g, off, cs, t', fr, hv, hh, fun hT => hn (hT.imp id (hmem g)), hlf', fun j d hd => ?_⟩
      obtain ⟨u, hu, hr''⟩ := hr' j d hd
      exact ⟨u, hu, hrep d u hr''⟩
    | r b' n sz =>
      simp only [trimS]
      split
      · rename_i hlt
        rcases h0 with ⟨k1, k2, k3⟩ | ⟨g, cp, cs, t', k1, k2, k3, hh, hs'⟩
        · exact .inl ⟨k1, k2, hput _ _ hlt k3⟩
        · exact .inr ⟨g, cp, cs, t', hput _ _ hlt k1, k2, k3, hh, hs'⟩
      · trivial
    | u => trivial
theorem AO.trim (m : Nat) (hm : m ≤ H.length) (hb : c.b0.length ≤ m) (h : AO c N ops l Q (.trim m :: σ) (H.take m)) : AO c N ops l Q σ H :=
  ⟨fun R hR a w hS => h.out R hR a w (hS.trim hm hb)⟩

/-! ### Literals of slices -/
def chunk (sz : Nat) : Nat → List Dv → List (List Dv)
  | 0, _ => []
  | n + 1, l => l.take sz :: chunk sz n (l.drop sz)
theorem chunk_ok {sz : Nat} : ∀ (n : Nat) (l : List Dv), l.length = n * sz → (chunk sz n l).length = n ∧ (∀ x ∈ chunk sz n l, x.length = sz) ∧ (chunk sz n l).flatten = l
  | 0, l, h => by
    have : l = [] := List.eq_nil_of_length_eq_zero (by simpa using h)
    simp [chunk, this]
  | n + 1, l, h => by
    rw [Nat.add_mul, Nat.one_mul] at h
    obtain ⟨h1, h2, h3⟩ := chunk_ok (sz := sz) n (l.drop sz) (by simp; omega)
    refine ⟨by simp [chunk, h1], fun x hx => ?_, by simp [chunk, h3]⟩
    simp only [chunk, List.mem_cons] at hx
    rcases hx with rfl | hx
    · simp; omega
    · exact h2 x hx
theorem made_reps {P : Program} {t : TypeId} {sz bt : Nat} {zs : List Dv} {z : Value} {T : Nat → Prop} {w : World} (e3 : z.cells.size = sz) (hsz : 0 < sz) (hzo : ∀ u ∈ z.cells, u.oneCell' = true) (hzs : zs = z.cells.toList.map ofV) (n : Nat) :
    (madeCells z.cells (n * sz)).size = ((List.replicate n zs).flatten).length ∧ (∀ d ∈ (List.replicate n zs).flatten, leaf d = true) ∧
    ∀ (k : Nat) (d : Dv) (u : Value), ((List.replicate n zs).flatten)[k]? = some d → (madeCells z.cells (n * sz))[k]? = some u → Rep T w d u := by
  have hzl : zs.length = sz := by rw [hzs]; simp [e3]
  obtain ⟨f1, f2⟩ := flatten_at hsz (List.replicate n zs) (fun y hy => by rw [(List.mem_replicate.1 hy).2]; exact hzl)
  refine ⟨by rw [f1, size_madeCells]; simp, fun d hd' => ?_, fun k d u hd' hu' => ?_⟩
  · obtain ⟨y, hy', hd''⟩ := List.mem_flatten.1 hd'
    rw [(List.mem_replicate.1 hy').2, hzs] at hd''
    obtain ⟨u, hu', rfl⟩ := List.mem_map.1 hd''
    exact ofV_leaf (hzo u (by simpa using hu'))
  · have hk : k < n * sz := by have := (List.getElem?_eq_some_iff.1 hd').1; rw [f1] at this; simpa using this
    rw [f2 k] at hd'
    have hq : (List.replicate n zs)[k / sz]? = some zs := by
      rw [List.getElem?_replicate, if_pos (Nat.div_lt_of_lt_mul (by rw [Nat.mul_comm]; exact hk))]
    rw [hq] at hd'
    simp only [Option.bind_some, hzs, List.getElem?_map, Option.map_eq_some_iff] at hd'
    obtain ⟨u', hu1, rfl⟩ := hd'
    have hu2 : (madeCells z.cells (n * sz))[k]? = some u' := by
      have hmod : k % z.cells.size < z.cells.size := Nat.mod_lt _ (by omega)
      have : z.cells[k % z.cells.size]? = some u' := by rw [e3]; simpa using hu1
      rw [Array.getElem?_eq_getElem hmod] at this
      simp [madeCells, hk, getElem!_pos, hmod] at this ⊢
      exact this
    rw [hu2] at hu'
    cases hu'
    exact ofV_rep _ w (hzo _ (by have := List.mem_of_getElem? hu1; simpa using this))
theorem XS.buildSlice {t : TypeId} {len : Nat} {parts : Array (Nat × Operand)} {sz bt : Nat} {zs r : List Dv} {ps : List (Nat × Dv)} (ht : appB c.P t = some (sz, bt, zs)) (hps : partsD σ parts.toList = some ps)
    (hf : fillO (fun i => some (i * sz, sz)) ((List.replicate len zs).flatten) ps = some r) (hrl : r.length = len * sz) (hlen : len * sz ≤ 16777216 ∧ 0 < len) : XS c ⟨dst, .buildSlice t len parts, ty, pos, after, gd⟩ H σ (.d (.sl (chunk sz len r))) := by
  refine ⟨fun bs a w hW hops K Q hK => ?_⟩
  obtain ⟨e, ti, z, hu, hi, hz, e1, e2, e3, hsz, hzo, hzs⟩ := app_u ht
  subst e1 e2
  obtain ⟨h1, h2⟩ := partsD_reps (a := a) (w := w) (bs := bs) (c := c) parts.toList ps hps (fun p hp' s hs => hops p.2 (by simp [Op.operands]; exact ⟨p.1, by simpa using hp'⟩) s hs)
  obtain ⟨m1, m2, m3⟩ := made_reps (P := c.P) (t := t) (bt := ti.bytes) (T := TT c.T bs) (w := w) e3 hsz hzo hzs len
  obtain ⟨cells, k1, k2, k3, k4⟩ := fill_reps (T := TT c.T bs) (w := w) ps (parts.toList.map fun (i, x) => (i, a.eval x)) _ r (madeCells z.cells (len * ti.size)) hf (by simpa using h1) h2 m1 m2 m3
  have hpos : ¬ len * ti.size = 0 := by
    have := Nat.mul_pos hlen.2 hsz
    omega
  have hrun := run_buildSlice (P := c.P) w t e len (parts.toList.map fun (i, x) => (i, a.eval x)).toArray cells ti z hu hi hz (by omega) hpos (by simpa [madeCells] using k1)
  have harr : (parts.map fun (i, x) => (i, a.eval x)) = (parts.toList.map fun (i, x) => (i, a.eval x)).toArray := by apply Array.ext'; simp
  have hB : Below w.heap.size w (w.alloc (.cells cells e)) := ⟨rfl, rfl, rfl, by simp, fun k hk => Below.heap_alloc w _ k hk⟩
  obtain ⟨w1, w2⟩ := hW.below hB
  unfold Oper.wp
  have hex : (execOp a.eval ⟨dst, .buildSlice t len parts, ty, pos, after, gd⟩).run c.P w = .ok (.value (.slice (some ⟨w.heap.size, 0, none⟩) len len)) (w.alloc (.cells cells e)) := by
    simp only [execOp]
    rw [harr]
    simp [hrun]
  rw [hex]
  refine hK _ _ w1 w2 ?_
  obtain ⟨q1, q2, q3⟩ := chunk_ok (sz := ti.size) len r hrl
  obtain ⟨f1, f2⟩ := flatten_at hsz (chunk ti.size len r) q2
  rw [q3] at f2
  have hnew : (w.alloc (.cells cells e)).heap[w.heap.size]? = some (.cells cells e) := by
    show (w.heap.push _)[w.heap.size]? = _
    exact Array.getElem?_push_size
  have hij : ∀ i j, i < len → j < ti.size → i * ti.size + j < r.length := fun i j hi hj => by
    rw [hrl]
    have : (i + 1) * ti.size ≤ len * ti.size := Nat.mul_le_mul_right _ hi
    rw [Nat.add_mul] at this; omega
  show Rep _ _ _ _
  have key := Rep.sl1 (T := TT c.T bs) (w := w.alloc (.cells cells e)) (xs := chunk ti.size len r) (g := w.heap.size) (off := 0) (c := len) (sz := ti.size) (cells := cells) (e := e) (fr := (0, 0)) (u := fun i j => cells.getD (i * ti.size + j) undef)
    (by omega) (by omega) hnew (fun hT => by have := hW.tt _ hT; omega) q2 (fun x hx d hd => by
      have : d ∈ (chunk ti.size len r).flatten := List.mem_flatten.2 ⟨x, hx, hd⟩
      rw [q3] at this
      exact k3 d this) (fun i j hi hj => by
      have := hij i j (by omega) hj
      rw [Nat.zero_add, Array.getD_eq_getD_getElem?, Array.getElem?_eq_getElem (by omega)]; rfl) (fun i x j d hx hd => by
      have hi : i < len := by have := (List.getElem?_eq_some_iff.1 hx).1; omega
      have hj : j < ti.size := by rw [← q2 x (List.mem_of_getElem? hx)]; exact (List.getElem?_eq_some_iff.1 hd).1
      have hk := hij i j hi hj
      have hd' : r[i * ti.size + j]? = some d := by
        rw [f2, Nat.mul_comm, Nat.mul_add_div hsz, Nat.mul_add_mod, Nat.div_eq_of_lt hj, Nat.mod_eq_of_lt hj, Nat.add_zero, hx]
        exact hd
      have hc : cells[i * ti.size + j]? = some (cells[i * ti.size + j]'(by omega)) := Array.getElem?_eq_getElem _
      show Rep _ _ _ (cells.getD (i * ti.size + j) undef)
      rw [Array.getD_eq_getD_getElem?, hc]
      exact (k4 _ d _ hd' hc).ext w2)
  rw [q1] at key
  exact key

theorem XS.max2 {x y : Operand} {t u : TypeId} {k : IntKind} {m n : Int} (hx : evS σ x = some (.d (.im (.int k m)))) (hy : evS σ y = some (.d (.im (.int k n)))) :
    XS c ⟨dst, .call ⟨.builtin .max, #[x, y], #[t, u]⟩, ty, pos, after, gd⟩ H σ (.d (.im (.int k (max m n)))) := by
  refine XS.of_val fun bs a w hW hops => ?_
  have h1 := Rep.im_inv (hops x (by simp [Op.operands, Call.operands]) _ hx)
  have h2 := Rep.im_inv (hops y (by simp [Op.operands, Call.operands]) _ hy)
  have e : (if n > m then n else m) = max m n := by omega
  exact ⟨.int k (max m n), by simp [execOp, resolve, invoke, builtin, h1, h2, run_max_int2, e], Rep.im rfl⟩
theorem XS.min2 {x y : Operand} {t u : TypeId} {k : IntKind} {m n : Int} (hx : evS σ x = some (.d (.im (.int k m)))) (hy : evS σ y = some (.d (.im (.int k n)))) :
    XS c ⟨dst, .call ⟨.builtin .min, #[x, y], #[t, u]⟩, ty, pos, after, gd⟩ H σ (.d (.im (.int k (min m n)))) := by
  refine XS.of_val fun bs a w hW hops => ?_
  have h1 := Rep.im_inv (hops x (by simp [Op.operands, Call.operands]) _ hx)
  have h2 := Rep.im_inv (hops y (by simp [Op.operands, Call.operands]) _ hy)
  have e : (if n < m then n else m) = min m n := by omega
  exact ⟨.int k (min m n), by simp [execOp, resolve, invoke, builtin, h1, h2, run_min_int2, e], Rep.im rfl⟩
end
end Go.Proofs.Ytgafdhpagifpcaa.Av
