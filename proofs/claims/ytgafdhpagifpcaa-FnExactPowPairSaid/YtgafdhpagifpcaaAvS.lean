/-
  OWN WORK. The calculus: strings and slices cut.
-/
import Derived.Test.YtgafdhpagifpcaaAvE
namespace Go.Proofs.Ytgafdhpagifpcaa.Av
open Go Go.RowKit
set_option linter.unusedVariables false
set_option linter.unusedSimpArgs false
section
variable {c : Cx} {N : Nat} {H : List (List Dv)} {σ : Sg} {dst : Option Tmp} {ty : TypeId} {pos : String} {after : Array Edge} {gd : Option (Nat × Bool)}

theorem XS.cutH {t : TypeId} {x y : Operand} {k : IntKind} {s : ByteArray} {h : Int} (hx : evS σ x = some (.d (.im (.string s)))) (hy : evS σ y = some (.d (.im (.int k h)))) (ht : strB c.P t = true) (h0 : 0 ≤ h) (h1 : h ≤ s.size) :
    XS c ⟨dst, .slice t x none (some y) none, ty, pos, after, gd⟩ H σ (.d (.im (.string (s.extract 0 h.toNat)))) := by
  refine XS.of_val fun bs a w hW hops => ?_
  have e1 := Rep.im_inv (hops x (by simp [Op.operands]) _ hx)
  have e2 := Rep.im_inv (hops y (by simp [Op.operands]) _ hy)
  exact ⟨_, by simp [execOp, e1, e2, run_sliceAt_string w t _ _ _ _ (strB_u ht), run_slice_string_h w t s (strB_u ht) k h h0 h1], Rep.im rfl⟩
theorem XS.cutL {t : TypeId} {x y : Operand} {k : IntKind} {s : ByteArray} {l : Int} (hx : evS σ x = some (.d (.im (.string s)))) (hy : evS σ y = some (.d (.im (.int k l)))) (ht : strB c.P t = true) (h0 : 0 ≤ l) (h1 : l ≤ s.size) :
    XS c ⟨dst, .slice t x (some y) none none, ty, pos, after, gd⟩ H σ (.d (.im (.string (s.extract l.toNat s.size)))) := by
  refine XS.of_val fun bs a w hW hops => ?_
  have e1 := Rep.im_inv (hops x (by simp [Op.operands]) _ hx)
  have e2 := Rep.im_inv (hops y (by simp [Op.operands]) _ hy)
  exact ⟨_, by simp [execOp, e1, e2, run_sliceAt_string w t _ _ _ _ (strB_u ht), run_slice_string_l w t s (strB_u ht) k l h0 h1], Rep.im rfl⟩

theorem elem_s {P : Program} {t : TypeId} {n : Nat} (h : elemB P t = some n) : P.underlying t = some (.slice (P.elem t)) ∧ szB P (P.elem t) = some n := by
  obtain ⟨e, hu, hz⟩ := elem_u h
  have : P.elem t = e := by unfold Program.elem; rw [hu]
  rw [this]; exact ⟨hu, hz⟩
/-- The first ones of a slice. -/
theorem XS.sliceH {t : TypeId} {x y : Operand} {k : IntKind} {xs : List (List Dv)} {n : Nat} {h : Int} (hx : evS σ x = some (.d (.sl xs))) (hy : evS σ y = some (.d (.im (.int k h)))) (ht : elemB c.P t = some n) (h0 : 0 ≤ h) (h1 : h ≤ xs.length) :
    XS c ⟨dst, .slice t x none (some y) none, ty, pos, after, gd⟩ H σ (.d (.sl (xs.take h.toNat))) := by
  refine XS.of_val fun bs a w hW hops => ?_
  have r1 := hops x (by simp [Op.operands]) _ hx
  have e2 := Rep.im_inv (hops y (by simp [Op.operands]) _ hy)
  obtain ⟨hu, hz⟩ := elem_s ht
  have hr := size_run hz w
  rcases Rep.sl_inv r1 with ⟨rfl, A, cp, hv⟩ | ⟨g, off, cp, sz, cells, e, fr, u, hv, k0, k1, k2, k3, k4, k5, k6, k7⟩
  · have hh : h = 0 := by simp at h1; omega
    subst hh
    refine ⟨sliced A 0 0 cp n, by simp [execOp, hv, e2, run_sliceAt_slice w t _ _ _ _ hu, run_slice_h w t A 0 cp hu k 0 (by omega) (by omega), hr], ?_⟩
    simp [sliced]; exact .sl0
  · refine ⟨sliced (some ⟨g, off, none⟩) 0 h.toNat cp n, by simp [execOp, hv, e2, run_sliceAt_slice w t _ _ _ _ hu, run_slice_h w t (some ⟨g, off, none⟩) xs.length cp hu k h h0 (by omega), hr], ?_⟩
    rcases Nat.eq_zero_or_pos h.toNat with hz0 | hp
    · rw [hz0]; simp [sliced]; exact .sl0
    · have hl : (xs.take h.toNat).length = h.toNat := by simp; omega
      have key := Rep.sl1 (T := TT c.T bs) (w := w) (xs := xs.take h.toNat) (g := g) (off := off) (c := cp) (sz := sz) (cells := cells) (e := e) (fr := fr) (u := u) (by omega) (by omega) k2 k3
        (fun y hy => k4 y (List.mem_of_mem_take hy)) (fun y hy => k5 y (List.mem_of_mem_take hy)) (fun i j hi hj => k6 i j (by omega) hj) (fun i y j d hy hd => by
          rw [List.getElem?_take] at hy
          split at hy
          · exact k7 i y j d hy hd
          · cases hy)
      rw [hl] at key
      have e0 : sliced (some ⟨g, off, none⟩) 0 h.toNat cp n = .slice (some ⟨g, off, none⟩) h.toNat cp := by
        simp [sliced, Addr.add]
      rw [e0]
      exact key

/-- What is left of a slice behind the first ones. -/
theorem XS.sliceL {t : TypeId} {x y : Operand} {k : IntKind} {xs : List (List Dv)} {n : Nat} {l : Int} (hx : evS σ x = some (.d (.sl xs))) (hy : evS σ y = some (.d (.im (.int k l)))) (ht : elemB c.P t = some n) (hall : ∀ x ∈ xs, x.length = n) (h0 : 0 ≤ l) (h1 : l ≤ xs.length) :
    XS c ⟨dst, .slice t x (some y) none none, ty, pos, after, gd⟩ H σ (.d (.sl (xs.drop l.toNat))) := by
  refine XS.of_val fun bs a w hW hops => ?_
  have r1 := hops x (by simp [Op.operands]) _ hx
  have e2 := Rep.im_inv (hops y (by simp [Op.operands]) _ hy)
  obtain ⟨hu, hz⟩ := elem_s ht
  have hr := size_run hz w
  rcases Rep.sl_inv r1 with ⟨rfl, A, cp, hv⟩ | ⟨g, off, cp, sz, cells, e, fr, u, hv, k0, k1, k2, k3, k4, k5, k6, k7⟩
  · have hh : l = 0 := by simp at h1; omega
    subst hh
    refine ⟨sliced A 0 0 cp n, by simp [execOp, hv, e2, run_sliceAt_slice w t _ _ _ _ hu, run_slice_l w t A 0 cp hu k 0 (by omega) (by omega), hr], ?_⟩
    simp [sliced]; exact .sl0
  · refine ⟨sliced (some ⟨g, off, none⟩) l.toNat xs.length cp n, by simp [execOp, hv, e2, run_sliceAt_slice w t _ _ _ _ hu, run_slice_l w t (some ⟨g, off, none⟩) xs.length cp hu k l h0 (by omega), hr], ?_⟩
    have hsz : sz = n := by
      obtain ⟨y, hy'⟩ := List.exists_mem_of_length_pos k0
      rw [← k4 y hy', hall y hy']
    subst hsz
    rcases Nat.eq_or_lt_of_le (show l.toNat ≤ xs.length by omega) with hq | hlt
    · rw [hq, List.drop_length]; simp [sliced]; exact .sl0
    · have hl : (xs.drop l.toNat).length = xs.length - l.toNat := by simp
      have key := Rep.sl1 (T := TT c.T bs) (w := w) (xs := xs.drop l.toNat) (g := g) (off := off + l.toNat * sz) (c := cp - l.toNat) (sz := sz) (cells := cells) (e := e) (fr := fr) (u := fun i j => u (l.toNat + i) j) (by omega) (by omega) k2 k3
        (fun y hy => k4 y (List.mem_of_mem_drop hy)) (fun y hy => k5 y (List.mem_of_mem_drop hy)) (fun i j hi hj => by
          have := k6 (l.toNat + i) j (by omega) hj
          rw [Nat.add_mul] at this
          rw [← this]; congr 1; omega) (fun i y j d hy hd => by
          rw [List.getElem?_drop] at hy
          exact k7 _ y j d hy hd)
      rw [hl] at key
      have hne : ¬ cp = l.toNat := by omega
      have e0 : sliced (some ⟨g, off, none⟩) l.toNat xs.length cp sz = .slice (some ⟨g, off + l.toNat * sz, none⟩) (xs.length - l.toNat) (cp - l.toNat) := by
        simp [sliced, hne, add_at]
      rw [e0]
      exact key
end
end Go.Proofs.Ytgafdhpagifpcaa.Av
