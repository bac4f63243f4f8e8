/-
  OWN WORK. The calculus: rows of digits, told by a number.
-/
import Derived.Test.YtgafdhpagifpcaaAvN
import Derived.Test.YtgafdhpagifpcaaN2
import Derived.Laws.BytesString
namespace Go.Proofs.Ytgafdhpagifpcaa.Av
open Go Go.RowKit Go.Proofs.Ytgafdhpagifpcaa.Num
set_option linter.unusedVariables false
set_option linter.unusedSimpArgs false

/-- What a row of numbers holds. -/
def nkD (k : IntKind) (l : List Nat) : List Dv := l.map fun (d : Nat) => .im (.int k (d : Int))
/-- A slice of numbers. -/
def limbsD (k : IntKind) (l : List Nat) : Dv := .sl (l.map fun (d : Nat) => [.im (.int k (d : Int))])
def bs8 (l : List Nat) : ByteArray := ⟨(l.map UInt8.ofNat).toArray⟩

section
variable {c : Cx} {N : Nat} {H : List (List Dv)} {σ : Sg} {dst : Option Tmp} {ty : TypeId} {pos : String} {after : Array Edge} {gd : Option (Nat × Bool)}
variable {ops : Array Oper} {i : Nat} {l : List Nat} {Q : Sg → List (List Dv) → Prop}
variable {t u : TypeId} {x y : Operand} {m n j b V : Nat} {k k' : IntKind}

theorem XS.addN (hx : evS σ x = some (.d (.im (.int .i64 (m : Int))))) (hy : evS σ y = some (.d (.im (.int .i64 (n : Int))))) (h : m + n < 9223372036854775808) :
    XS c ⟨dst, .binOp .add t x y u, ty, pos, after, gd⟩ H σ (.d (.im (.int .i64 ((m + n : Nat) : Int)))) := (XS.addI hx hy (by omega)).toI (by omega)
theorem XS.subN (hx : evS σ x = some (.d (.im (.int .i64 (m : Int))))) (hy : evS σ y = some (.d (.im (.int .i64 (n : Int))))) (h : n ≤ m ∧ m < 9223372036854775808) :
    XS c ⟨dst, .binOp .sub t x y u, ty, pos, after, gd⟩ H σ (.d (.im (.int .i64 ((m - n : Nat) : Int)))) := (XS.subI hx hy (by omega)).toI (by omega)
theorem XS.mulN (hx : evS σ x = some (.d (.im (.int .i64 (m : Int))))) (hy : evS σ y = some (.d (.im (.int .i64 (n : Int))))) (h : m * n < 9223372036854775808) :
    XS c ⟨dst, .binOp .mul t x y u, ty, pos, after, gd⟩ H σ (.d (.im (.int .i64 ((m * n : Nat) : Int)))) :=
  (XS.mulI hx hy (by rw [← Int.natCast_mul]; omega)).toI (Int.natCast_mul m n).symm
theorem XS.indexN {s : ByteArray} (hx : evS σ x = some (.d (.im (.string s)))) (hy : evS σ y = some (.d (.im (.int k (j : Int))))) (ht : strB c.P t = true) (h : j < s.size) :
    XS c ⟨dst, .index t x y, ty, pos, after, gd⟩ H σ (.d (.im (.int .u8 (((s.data.getD j 0).toNat : Nat) : Int)))) := XS.index hx hy ht (by omega) (by omega)

theorem XS.lenL (hx : evS σ x = some (.d (limbsD k (fx b n V)))) (ht : elemB c.P t = some m) :
    XS c ⟨dst, .call ⟨.builtin .len, #[x], #[t]⟩, ty, pos, after, gd⟩ H σ (.d (.im (.int .i64 (n : Int)))) :=
  (XS.lenM hx ht).toI (by rw [fx_len])
theorem XS.indexL (hx : evS σ x = some (.d (limbsD k (fx b n V)))) (hy : evS σ y = some (.d (.im (.int k' (j : Int))))) (ht : elemB c.P t = some 1) (hj : j < n) :
    XS c ⟨dst, .indexAddr t x y, ty, pos, after, gd⟩ H σ (.e [.im (.int k ((V / b ^ j % b : Nat) : Int))]) := by
  have hj' : j < (fx b n V).length := by rw [fx_len]; exact hj
  have := XS.indexM (c := c) (H := H) (dst := dst) (ty := ty) (pos := pos) (after := after) (gd := gd) hx hy ht hj' rfl
  rwa [fx_at] at this
theorem XS.headL (hx : evS σ x = some (.d (limbsD k (fx b n V)))) (hy : evS σ y = some (.d (.im (.int k' (j : Int))))) (ht : elemB c.P t = some m) (hj : j ≤ n) :
    XS c ⟨dst, .slice t x none (some y) none, ty, pos, after, gd⟩ H σ (.d (limbsD k (fx b j V))) := by
  have := XS.sliceH (c := c) (H := H) (dst := dst) (ty := ty) (pos := pos) (after := after) (gd := gd) hx hy ht (by omega) (by rw [List.length_map, fx_len]; omega)
  rw [← List.map_take, Int.toNat_natCast, fx_take hj] at this
  exact this
theorem XS.loadL {o : Nat} (hx : evS σ x = some (.p o j)) (ht : oneB c.P t = true) (hH : H[o]? = some (nkD k (fx b n V))) (hj : j < n) :
    XS c ⟨dst, .load t x, ty, pos, after, gd⟩ H σ (.d (.im (.int k ((V / b ^ j % b : Nat) : Int)))) :=
  XS.load hx ht hH (by unfold nkD; rw [List.getElem?_map, fx_get hj]; rfl)
theorem AO.storeL {p : Operand} {o v V' : Nat} {H' : List (List Dv)} (ho : ops[i]? = some ⟨none, .store t p x, ty, pos, after, none⟩) (hp : evS σ p = some (.p o j)) (hx : evS σ x = some (.d (.im (.int k (v : Int)))))
    (hn : szB c.P t = some 1) (hH : H[o]? = some (nkD k (fx b n V))) (hj : j < n) (hs : (fx b n V).set j v = fx b n V') (hH' : setAt o (nkD k (fx b n V')) H = some H') (h : AO c N ops l Q σ H') : AO c N ops (i :: l) Q σ H := by
  refine AO.store1 ho hp hx rfl hn hH (by unfold nkD; rw [List.length_map, fx_len]; exact hj) ?_ h
  rw [← hH']
  congr 1
  unfold nkD
  rw [← hs, List.map_set]; rfl
theorem AO.makeL (b : Nat) {l' : Nat} {k1 k2 : IntKind} {bt : Nat} (ho : ops[i]? = some ⟨dst, .makeSlice t x y, ty, pos, after, none⟩) (hd : dstOk N dst = true)
    (hx : evS σ x = some (.d (.im (.int k1 (l' : Int))))) (hy : evS σ y = some (.d (.im (.int k2 (l' : Int))))) (ht : appB c.P t = some (1, bt, [.im (.int k 0)])) (h2 : bt * l' ≤ 281474976710656 ∧ l' ≤ 9223372036854775807)
    (h : AO c N ops l Q (put σ dst (.r H.length l' 1)) (H ++ [nkD k (fx b l' 0)])) : AO c N ops (i :: l) Q σ H := by
  refine AO.make1 ho hd hx hy ht (Nat.le_refl _) h2.1 h2.2 ?_
  have e : nkD k (fx b l' 0) = List.replicate l' (.im (.int k 0)) := by rw [fx_zero]; unfold nkD; rw [List.map_replicate]; rfl
  rw [← e]; exact h
theorem AO.makeC (b : Nat) {l' cp : Nat} {k1 k2 : IntKind} {bt : Nat} (ho : ops[i]? = some ⟨dst, .makeSlice t x y, ty, pos, after, none⟩) (hd : dstOk N dst = true)
    (hx : evS σ x = some (.d (.im (.int k1 (l' : Int))))) (hy : evS σ y = some (.d (.im (.int k2 (cp : Int))))) (ht : appB c.P t = some (1, bt, [.im (.int k 0)])) (hl : l' ≤ cp) (h2 : bt * cp ≤ 281474976710656 ∧ cp ≤ 9223372036854775807)
    (h : AO c N ops l Q (put σ dst (.r H.length l' 1)) (H ++ [nkD k (fx b l' 0)])) : AO c N ops (i :: l) Q σ H := by
  refine AO.make1 ho hd hx hy ht hl h2.1 h2.2 ?_
  have e : nkD k (fx b l' 0) = List.replicate l' (.im (.int k 0)) := by rw [fx_zero]; unfold nkD; rw [List.map_replicate]; rfl
  rw [← e]; exact h
theorem AO.storeG {p : Operand} {o v : Nat} {ns ns' : List Nat} {H' : List (List Dv)} (ho : ops[i]? = some ⟨none, .store t p x, ty, pos, after, none⟩) (hp : evS σ p = some (.p o j)) (hx : evS σ x = some (.d (.im (.int k (v : Int)))))
    (hn : szB c.P t = some 1) (hH : H[o]? = some (nkD k ns)) (hj : j < ns.length) (hs : ns.set j v = ns') (hH' : setAt o (nkD k ns') H = some H') (h : AO c N ops l Q σ H') : AO c N ops (i :: l) Q σ H := by
  refine AO.store1 ho hp hx rfl hn hH (by unfold nkD; rw [List.length_map]; exact hj) ?_ h
  rw [← hH']
  congr 1
  unfold nkD
  rw [← hs, List.map_set]; rfl
theorem XS.loadG {o v : Nat} {ns : List Nat} (hx : evS σ x = some (.p o j)) (ht : oneB c.P t = true) (hH : H[o]? = some (nkD k ns)) (hj : ns[j]? = some v) :
    XS c ⟨dst, .load t x, ty, pos, after, gd⟩ H σ (.d (.im (.int k (v : Int)))) :=
  XS.load hx ht hH (by unfold nkD; rw [List.getElem?_map, hj]; rfl)
theorem XS.lenG {ns : List Nat} (hx : evS σ x = some (.d (limbsD k ns))) (ht : elemB c.P t = some m) (e : ns.length = n) :
    XS c ⟨dst, .call ⟨.builtin .len, #[x], #[t]⟩, ty, pos, after, gd⟩ H σ (.d (.im (.int .i64 (n : Int)))) :=
  (XS.lenM hx ht).toI (by rw [e])
theorem XS.indexG {ns : List Nat} {v : Nat} (hx : evS σ x = some (.d (limbsD k ns))) (hy : evS σ y = some (.d (.im (.int k' (j : Int))))) (ht : elemB c.P t = some 1) (hj : ns[j]? = some v) :
    XS c ⟨dst, .indexAddr t x y, ty, pos, after, gd⟩ H σ (.e [.im (.int k (v : Int))]) := by
  obtain ⟨hj', hv⟩ := List.getElem?_eq_some_iff.1 hj
  have := XS.indexM (c := c) (H := H) (dst := dst) (ty := ty) (pos := pos) (after := after) (gd := gd) hx hy ht hj' rfl
  rwa [hv] at this
theorem XS.tailL {ns : List Nat} (hx : evS σ x = some (.d (limbsD k ns))) (hy : evS σ y = some (.d (.im (.int k' (j : Int))))) (ht : elemB c.P t = some 1) (hj : j ≤ ns.length) :
    XS c ⟨dst, .slice t x (some y) none none, ty, pos, after, gd⟩ H σ (.d (limbsD k (ns.drop j))) := by
  have := XS.sliceL (c := c) (H := H) (dst := dst) (ty := ty) (pos := pos) (after := after) (gd := gd) hx hy ht (by simp) (by omega) (by rw [List.length_map]; omega)
  rw [← List.map_drop, Int.toNat_natCast] at this
  exact this
theorem AO.freezeL (s : Nat) {o : Nat} {ns : List Nat} (ht : lk σ s = some (.r o n 1)) (hb : c.b0.length ≤ o) (hH : H[o]? = some (nkD k ns)) (hn : n = ns.length) (h : AO c N ops l Q (.put s (.d (limbsD k ns)) :: .kill o :: σ) H) : AO c N ops l Q σ H :=
  AO.freeze1 s ht hb hH hn h
theorem AW.freezeL (s : Nat) {z : Code} {Q : Ax → Sg → List (List Dv) → Prop} {o : Nat} {ns : List Nat} (ht : lk σ s = some (.r o n 1)) (hb : c.b0.length ≤ o) (hH : H[o]? = some (nkD k ns)) (hn : n = ns.length) (h : AW c N z Q (.put s (.d (limbsD k ns)) :: .kill o :: σ) H) : AW c N z Q σ H :=
  AW.freeze1 s ht hb hH hn h

/-- An empty literal of a slice, as a row of the call's own. -/
theorem AO.lit0 {sz bt : Nat} {zs : List Dv} (ho : ops[i]? = some ⟨dst, .buildSlice t 0 #[], ty, pos, after, none⟩) (hd : dstOk N dst = true) (ht : appB c.P t = some (sz, bt, zs))
    (h : AO c N ops l Q (put σ dst (.r H.length 0 sz)) (H ++ [[]])) : AO c N ops (i :: l) Q σ H := by
  obtain ⟨e, ti, z, hu, hi, hz, e1, e2, e3, hsz, hzo, hzs⟩ := app_u ht
  subst e1 e2
  refine AO.new ho rfl hd (fun bs a w hW hops => ⟨#[], e, .slice (some ⟨w.heap.size, 0, none⟩) 0 0, ?_, by simp, by simp, by simp, ?_⟩) h
  · simp [execOp, Instr.buildSlice, run_underlying hu, sizeOf, typeInfo, hi, newRow, Instr.fill]
    have e0 : Array.map (fun _ => (default : Value)) (Array.range 0) = #[] := by simp
    rw [e0]
  · exact .inr ⟨w.heap.size, 0, #[], e, by rw [hW.len]; simp, rfl, Nat.le_refl _, Array.getElem?_push_size, by simp⟩
theorem AO.appendL {s : Operand} {tx : TypeId} {o v bt mm : Nat} {zs : List Dv} {ns : List Nat} {H' : List (List Dv)} (ho : ops[i]? = some ⟨dst, .call ⟨.builtin .append, #[s, x], #[t, tx]⟩, ty, pos, after, none⟩) (hd : dstOk N dst = true)
    (hs : evS σ s = some (.r o n 1)) (hx : evS σ x = some (.d (.sl [[.im (.int k (v : Int))]]))) (ht : appB c.P t = some (1, bt, zs)) (htx : elemB c.P tx = some mm) (hb : c.b0.length ≤ o) (hH : H[o]? = some (nkD k ns)) (hn : ns.length = n)
    (hbt : (n + 1) * bt ≤ 140737488355328) (hmx : n + 1 ≤ maxLen) (hH' : setAt o (nkD k (ns ++ [v])) H = some H') (h : AO c N ops l Q (put (.kill o :: σ) dst (.r o (n + 1) 1)) H') : AO c N ops (i :: l) Q σ H := by
  refine AO.append ho hd hs ht (SrcD.sl (by decide) hx htx (by simp)) hb hH (by unfold nkD; rw [List.length_map, hn]; omega) hbt hmx (H' := H') ?_ h
  rw [← hH']; congr 1; simp [nkD]

def sbB (P : Program) (s d : TypeId) : Bool := match P.underlying s, P.underlying d with
  | some (.slice e), some .string => (match P.underlying e with
    | some (.int .u8) => true
    | _ => false)
  | _, _ => false
theorem foldl_push : ∀ (l : List Nat) (s : ByteArray), (l.map fun (d : Nat) => (d : Int)).foldl (fun r n => r.push (UInt8.ofNat n.toNat)) s = ⟨s.data ++ (l.map UInt8.ofNat).toArray⟩
  | [], s => by cases s; simp
  | d :: l, s => by
    simp only [List.map_cons, List.foldl_cons]
    rw [foldl_push l]
    congr 1
    simp [ByteArray.push]
/-- Bytes as a text. -/
theorem XS.strOf {ns : List Nat} {s : TypeId} (hx : evS σ x = some (.d (limbsD .u8 ns))) (ht : sbB c.P s t = true) :
    XS c ⟨dst, .convert s t x, ty, pos, after, gd⟩ H σ (.d (.im (.string (bs8 ns)))) := by
  refine XS.of_val fun bs a w hW hops => ?_
  have r1 := hops x (by simp [Op.operands]) _ hx
  obtain ⟨e, hs, hd, he⟩ : ∃ e, c.P.underlying s = some (.slice e) ∧ c.P.underlying t = some .string ∧ c.P.underlying e = some (.int .u8) := by
    unfold sbB at ht
    split at ht
    · rename_i e h1 h2
      refine ⟨e, h1, h2, ?_⟩
      split at ht
      · assumption
      · cases ht
    · cases ht
  refine ⟨.string (bs8 ns), ?_, Rep.im rfl⟩
  rcases Rep.sl_inv r1 with ⟨h0, A, cp, hv⟩ | ⟨g, off, cp, sz, cells, e', fr, uu, hv, k0, k1, k2, k3, k4, k5, k6, k7⟩
  · obtain rfl : ns = [] := by simpa [limbsD] using h0
    have hc := run_convert_bytes_string w s t e A 0 cp hs he hd
    cases A with
    | none =>
      simp [execOp, hv, hc, Conv.bytesToString]; rfl
    | some ad =>
      have := run_bytesToString (P := c.P) w ad 0 cp [] (run_loadCells_list w ad [] (by simp))
      simp [execOp, hv, hc, this]; rfl
  · have hone : sz = 1 := by
      obtain ⟨q, hq⟩ := List.exists_mem_of_length_pos k0
      have h4 := k4 q hq
      obtain ⟨d, _, rfl⟩ := List.mem_map.1 hq
      simpa using h4.symm
    subst hone
    have hlen : (ns.map fun (d : Nat) => [Dv.im (.int .u8 (d : Int))]).length = ns.length := by simp
    have hcell : ∀ j v, ((ns.map fun (d : Nat) => (d : Int)).map (Value.int .u8))[j]? = some v → w.cell? ((⟨g, off, none⟩ : Addr).add j) = some v := by
      intro j v hj
      simp only [List.getElem?_map, Option.map_eq_some_iff] at hj
      obtain ⟨q, ⟨d, hd', rfl⟩, rfl⟩ := hj
      have hlt : j < ns.length := (List.getElem?_eq_some_iff.1 hd').1
      have h6 := k6 j 0 (by rw [hlen]; exact hlt) (by decide)
      have h7 := Rep.im_inv (k7 j [.im (.int .u8 (d : Int))] 0 (.im (.int .u8 (d : Int))) (by rw [List.getElem?_map, hd']; rfl) rfl)
      rw [h7] at h6
      rw [add_at]
      simp only [World.cell?, k2]
      simpa using h6
    have hl := run_loadCells_list (P := c.P) w ⟨g, off, none⟩ _ hcell
    have hlen' : ((ns.map fun (d : Nat) => (d : Int)).map (Value.int .u8)).length = ns.length := by simp
    rw [hlen'] at hl
    have hc := run_convert_bytes_string w s t e (some ⟨g, off, none⟩) ns.length cp hs he hd
    have hb := run_bytesToString (P := c.P) w ⟨g, off, none⟩ ns.length cp _ hl
    rw [hlen] at hv
    simp only [execOp, hv, Sem.run_bind, hc, hb, Result.andThen_ok]
    rw [foldl_push]
    simp [bs8, Sem.run_pure]
end
section
variable {c : Cx} {N : Nat} {H : List (List Dv)} {σ : Sg}
theorem sub_put {t : Nat} {s : Sv} (h : lk σ t = some s) : Sub σ (.put t s :: σ) := by
  intro q s' hq
  simp only [lk] at hq
  split at hq
  · rename_i e; subst e; cases hq; exact h
  · exact hq
/-- A join behind which memory is as it was. -/
theorem AW.cutS {α : Type} {Q : Ax → Sg → List (List Dv) → Prop} (L : List Nat) (C : α → List (Nat × Sv)) (I : α → Prop) {x y : Code} (h : AW c N x (cutQ L C (fun _ => H) I σ Q) σ H) (hy : ∀ z, I z → AW c N y Q (pts (C z) (.only L :: σ)) H) : AW c N (.seq x y) Q σ H :=
  AW.cut L C (fun _ => H) I h hy
/-- A slot, told otherwise. -/
theorem AW.tell {z : Code} {Q : Ax → Sg → List (List Dv) → Prop} (t : Nat) {a b : Dv} (h : lk σ t = some (.d a)) (e : a = b) (hh : AW c N z Q (.put t (.d b) :: σ) H) : AW c N z Q σ H :=
  AW.sub (sub_put (e ▸ h)) hh
theorem AO.tell {ops : Array Oper} {l : List Nat} {Q : Sg → List (List Dv) → Prop} (t : Nat) {a b : Dv} (h : lk σ t = some (.d a)) (e : a = b) (hh : AO c N ops l Q (.put t (.d b) :: σ) H) : AO c N ops l Q σ H :=
  ⟨fun R hR x w hS => hh.out R hR x w (hS.sub (sub_put (e ▸ h)))⟩
end
section
variable {c : Cx} {N : Nat} {ops : Array Oper} {i : Nat} {l : List Nat} {Q : Sg → List (List Dv) → Prop} {σ : Sg} {H : List (List Dv)}
theorem yielded_none {bs : List (Option Nat)} {w : World} {a : Act} {j : Nat} {oj : Oper} {t : Tmp} (hN : a.tmps.size = N) (hj : ops[j]? = some oj) (hd : oj.dst = some t) (ht : t < N)
    (hs : SRep c.T bs w (.d (.tu [])) (a.tmps.getD t undef)) : yielded ops a.tmps j = none := by
  have hlt : t < a.tmps.size := by rw [hN]; exact ht
  have hv' : a.tmps.getD t undef = .tuple #[] := by
    have hv : Rep (TT c.T bs) w (.tu []) (a.tmps.getD t undef) := hs
    generalize he : Dv.tu [] = d at hv
    generalize a.tmps.getD t undef = v at hv
    cases hv <;> cases he
    rename_i vs h1 h2
    obtain rfl : vs = [] := List.eq_nil_of_length_eq_zero h1.symm
    rfl
  rw [Array.getD_eq_getD_getElem?, Array.getElem?_eq_getElem hlt] at hv'
  have : a.tmps[t]? = some (.tuple #[]) := by rw [Array.getElem?_eq_getElem hlt]; simpa using hv'
  simp [yielded, hj, hd, this]
/-- The guard itself was not carried out. -/
theorem AO.gnt {j : Nat} {want : Bool} {o oj : Oper} {t : Tmp} (ho : ops[i]? = some o) (hg : o.guard = some (j, want)) (hj : ops[j]? = some oj) (hdj : oj.dst = some t) (htN : dstOk N (some t) = true)
    (hb : lk σ t = some (.d (.tu []))) (hd : dstOk N o.dst = true) (h : AO c N ops l Q (put σ o.dst (.d (.tu []))) H) : AO c N ops (i :: l) Q σ H := by
  refine ⟨fun R hR a w ⟨bs, hW, hN, hD, hs⟩ => ?_⟩
  rw [wpOps_cons]
  have hy := yielded_none (c := c) (bs := bs) (w := w) hN hj hdj (by simpa [dstOk] using htN) (hs t _ hb)
  simp only [wpOp, ho, Region.wanted, hg, hy]
  have : ((none : Option Bool) == some want) = false := rfl
  simp only [this, Bool.false_eq_true, if_false]
  refine h.out R hR _ w ⟨bs, hW, by rw [Act.put_size]; exact hN, by rw [Act.put_defers']; exact hD, ?_⟩
  exact slots_put hN hd (Rep.tu (vs := []) rfl (by simp)) hs
end
theorem intEq {k : IntKind} {a b : Int} (e : a = b) : Dv.im (.int k a) = .im (.int k b) := by rw [e]
def natD (n : Nat) : Dv := limbsD .u64 (dg 18446744073709551616 n)
def limD (n : Nat) : Dv := limbsD .i64 (dg 16777216 n)
end Go.Proofs.Ytgafdhpagifpcaa.Av
