/-
  OWN WORK, printed by wip/tools/gen.py out of the translation and of the contracts in wip/specs.
-/
import Derived.Test.YtnepbbhcbehilaaC3
namespace Go.Proofs.Ytnepbbhcbehilaa.C
open Go Go.RowKit Go.Proofs.Ytnepbbhcbehilaa.Av Go.Proofs.Ytnepbbhcbehilaa.Ty
set_option linter.unusedVariables false


/-! Systems -/
structure Tm where
  w : Int
  k : ByteArray
structure Rw where
  a : List Tm
  b : List Tm
  c : List Tm
structure Sy where
  cv : Int
  wi : Int
  ou : Int
  inn : Int
  pr : Int
  la : List Int
  ro : List Rw
def Tm.cs (t : Tm) : List Dv := [intD t.w, strD t.k]
def tmsD (l : List Tm) : Dv := .sl (l.map Tm.cs)
def Rw.cs (r : Rw) : List Dv := [tmsD r.a, tmsD r.b, tmsD r.c]
def rowsD (l : List Rw) : Dv := .sl (l.map Rw.cs)
def intsD (l : List Int) : Dv := .sl (l.map fun n => [intD n])
def Sy.cs (s : Sy) : List Dv := [intD s.cv, intD s.wi, intD s.ou, intD s.inn, intD s.pr, intsD s.la, rowsD s.ro]
def Tm.n (t : Tm) : Nat := t.k.size
def tmsN (l : List Tm) : Nat := l.length + (l.map Tm.n).sum
def Rw.n (r : Rw) : Nat := tmsN r.a + tmsN r.b + tmsN r.c
def rowsN (l : List Rw) : Nat := l.length + (l.map Rw.n).sum
def Sy.n (s : Sy) : Nat := s.la.length + rowsN s.ro
def i64ok (n : Int) : Prop := -9223372036854775808 ≤ n ∧ n ≤ 9223372036854775807
def Tm.ok (t : Tm) : Prop := i64ok t.w ∧ t.k.size ≤ maxLen
def tmsOk (l : List Tm) : Prop := l.length ≤ maxLen ∧ ∀ t ∈ l, t.ok
def Rw.ok (r : Rw) : Prop := tmsOk r.a ∧ tmsOk r.b ∧ tmsOk r.c
def Sy.ok (s : Sy) : Prop := s.la.length ≤ maxLen ∧ s.ro.length ≤ maxLen ∧ ∀ r ∈ s.ro, r.ok
def Rw.sm (r : Rw) : Prop := r.a.length ≤ 1048576 ∧ r.b.length ≤ 1048576 ∧ r.c.length ≤ 1048576
def Sy.sm (s : Sy) : Prop := s.la.length ≤ 1048576 ∧ s.ro.length ≤ 1048576 ∧ ∀ r ∈ s.ro, r.sm
theorem mem_sum {α : Type} (f : α → Nat) : ∀ (l : List α), ∀ a ∈ l, f a ≤ (l.map f).sum
  | b :: l, a, h => by
    rcases List.mem_cons.1 h with rfl | h
    · simp
    · have := mem_sum f l a h
      simp; omega
theorem Rw.sm_of {r : Rw} (h : r.n ≤ 1048576) : r.sm := by unfold Rw.n tmsN at h; unfold Rw.sm; omega
theorem Sy.sm_of {s : Sy} (h : s.n ≤ 1048576) : s.sm := by
  unfold Sy.n rowsN at h
  refine ⟨by omega, by omega, fun r hr => Rw.sm_of ?_⟩
  have := mem_sum Rw.n s.ro r hr
  omega
theorem Tm.cs_inj {p q : Tm} : p.cs = q.cs ↔ p = q := by cases p; cases q; simp [Tm.cs, strD, intD]
theorem Rw.ext_iff {p q : Rw} : p = q ↔ p.a = q.a ∧ p.b = q.b ∧ p.c = q.c := by cases p; cases q; simp
theorem Sy.ext_iff {p q : Sy} : p = q ↔ p.cv = q.cv ∧ p.wi = q.wi ∧ p.ou = q.ou ∧ p.inn = q.inn ∧ p.pr = q.pr ∧ p.la = q.la ∧ p.ro = q.ro := by cases p; cases q; simp

set_option maxRecDepth 100000 in
theorem toIntS_c {xs : List Int} (h : xs.length ≤ 1048576) : AC Try.prog 49 [intsD xs] (fun d => d = intsD xs) := by
  refine AC.intro Try.func49 Try.ntmps49 Try.results49 rfl (by simp) (fun w0 T => ?_)
  refine AW.seq ?_
  refine AW.region ?_
  refine AO.xs rfl rfl rfl (XS.assign rfl) ?_
  refine AO.nil ?_
  refine AW.seq ?_
  refine AW.region ?_
  refine AO.xs rfl rfl rfl (XS.move rfl) ?_
  refine AO.xs rfl rfl rfl (XS.lenM rfl (el rfl)) ?_
  refine AO.make1 rfl rfl rfl rfl (ap rfl) (by omega) (by omega) (by omega) ?_
  refine AO.xs rfl rfl rfl (XS.assign rfl) ?_
  refine AO.nil ?_
  refine AW.seq ?_
  refine AW.seq ?_
  refine AW.region ?_
  refine AO.xs rfl rfl rfl (XS.assign rfl) ?_
  refine AO.nil ?_
  refine AW.block ?_
  refine AW.loop [0, 2, 3] (fun i => [(4, .d (intD ((i : Nat) : Int)))]) (fun i => [fillTo intD (intD 0) xs i]) (fun i => i ≤ xs.length) (fun i => xs.length - i) (0) (Nat.zero_le _) ⟨rfl, trivial⟩ ⟨⟨_, rfl, rfl⟩, ⟨_, rfl, rfl⟩, ⟨_, rfl, rfl⟩, trivial⟩ (congrArg (fun z => [z]) (fill_zero _ _ _).symm) ?_
  intro i hi
  refine AW.seq ?_
  refine AW.seq ?_
  refine AW.region ?_
  refine AO.xs rfl rfl rfl (XS.move rfl) ?_
  refine AO.xs rfl rfl rfl (XS.move rfl) ?_
  refine AO.xs rfl rfl rfl (XS.lenM rfl (el rfl)) ?_
  refine AO.xs rfl rfl rfl (XS.int rfl rfl rfl) ?_
  refine AO.nil ?_
  refine AW.cond rfl (fun hb1 => ?_) (fun hb1 => ?_)
  · skip
    replace hb1 := of_decide_eq_true hb1
    refine AW.skip ?_
    refine AW.seq ?_
    refine AW.block ?_
    refine AW.region ?_
    refine AO.xs rfl rfl rfl (XS.move rfl) ?_
    refine AO.xs rfl rfl rfl (XS.move rfl) ?_
    refine AO.xs rfl rfl rfl (XS.move rfl) ?_
    refine AO.xs rfl rfl rfl (XS.move rfl) ?_
    refine AO.xs rfl rfl rfl (XS.indexM rfl rfl (el rfl) (by omega) rfl) ?_
    refine AO.xs rfl rfl rfl (XS.loadE rfl (on rfl) rfl) ?_
    refine AO.xs rfl rfl rfl (XS.indexR1 rfl rfl (el rfl) (by omega)) ?_
    refine AO.store1 rfl rfl rfl rfl (sz rfl) rfl (by rw [fill_len hi]; omega) rfl ?_
    refine AO.nil ?_
    refine AW.region ?_
    refine AO.xs rfl rfl rfl (XS.move rfl) ?_
    refine AO.xs rfl rfl rfl (XS.addI rfl rfl (by omega)) ?_
    refine AO.xs rfl rfl rfl (XS.assign rfl) ?_
    refine AO.nil ?_
    exact ⟨i + 1, (by omega), (by dsimp only; omega), ⟨rfl, trivial⟩, ⟨⟨_, rfl, rfl⟩, ⟨_, rfl, rfl⟩, ⟨_, rfl, rfl⟩, trivial⟩, (congrArg (fun z => [z]) (fill_set (by omega)))⟩
  · skip
    replace hb1 := of_decide_eq_false hb1
    refine AW.exit ?_
    refine AW.seq ?_
    obtain rfl : i = xs.length := by omega
    refine AW.setH (congrArg (fun z => [z]) (fill_all _ _ _)) ?_
    refine AW.region ?_
    refine AO.xs rfl rfl rfl (XS.move rfl) ?_
    refine AO.xs rfl rfl rfl (XS.assign rfl) ?_
    refine AO.nil ?_
    refine AW.freeze1 2 rfl (Nat.zero_le _) rfl (by simp) ?_
    refine AW.ret ?_
    exact ⟨_, rfl, rfl⟩

set_option maxRecDepth 100000 in
theorem toTerm_c {p : Tm} : AC Try.prog 161 [.ag p.cs] (fun d => d = .ag p.cs) := by
  refine AC.intro Try.func161 Try.ntmps161 Try.results161 rfl (by simp) (fun w0 T => ?_)
  refine AW.seq ?_
  refine AW.region ?_
  refine AO.box rfl rfl rfl rfl ?_
  refine AO.alloc rfl rfl (ze rfl) ?_
  refine AO.nil ?_
  refine AW.seq ?_
  refine AW.region ?_
  refine AO.alloc rfl rfl (ze rfl) ?_
  refine AO.nil ?_
  refine AW.seq ?_
  refine AW.region ?_
  refine AO.xs rfl rfl rfl (XS.field rfl (fo rfl)) ?_
  refine AO.xs rfl rfl rfl (XS.load rfl (on rfl) rfl rfl) ?_
  refine AO.xs rfl rfl rfl (XS.field rfl (fo rfl)) ?_
  refine AO.store rfl rfl rfl rfl (sz rfl) rfl rfl rfl rfl ?_
  refine AO.nil ?_
  refine AW.seq ?_
  refine AW.region ?_
  refine AO.xs rfl rfl rfl (XS.field rfl (fo rfl)) ?_
  refine AO.xs rfl rfl rfl (XS.load rfl (on rfl) rfl rfl) ?_
  refine AO.xs rfl rfl rfl (XS.field rfl (fo rfl)) ?_
  refine AO.store rfl rfl rfl rfl (sz rfl) rfl rfl rfl rfl ?_
  refine AO.nil ?_
  refine AW.seq ?_
  refine AW.region ?_
  refine AO.xs rfl rfl rfl (XS.loadA rfl (ro rfl) (sz rfl) rfl (Nat.le_of_ble_eq_true rfl)) ?_
  refine AO.store rfl rfl rfl rfl (sz rfl) rfl rfl rfl rfl ?_
  refine AO.nil ?_
  refine AW.ret ?_
  exact ⟨_, rfl, rfl⟩

set_option maxRecDepth 100000 in
theorem toTermS_c {xs : List Tm} (h : xs.length ≤ 1048576) : AC Try.prog 142 [tmsD xs] (fun d => d = tmsD xs) := by
  refine AC.intro Try.func142 Try.ntmps142 Try.results142 rfl (by simp) (fun w0 T => ?_)
  refine AW.seq ?_
  refine AW.region ?_
  refine AO.xs rfl rfl rfl (XS.assign rfl) ?_
  refine AO.nil ?_
  refine AW.seq ?_
  refine AW.region ?_
  refine AO.xs rfl rfl rfl (XS.move rfl) ?_
  refine AO.xs rfl rfl rfl (XS.lenM rfl (el rfl)) ?_
  refine AO.makeN rfl rfl rfl rfl (ap rfl) (by omega) (by omega) (by omega) ?_
  refine AO.xs rfl rfl rfl (XS.assign rfl) ?_
  refine AO.nil ?_
  refine AW.seq ?_
  refine AW.seq ?_
  refine AW.region ?_
  refine AO.xs rfl rfl rfl (XS.assign rfl) ?_
  refine AO.nil ?_
  refine AW.block ?_
  refine AW.loop [0, 2, 3] (fun i => [(4, .d (intD ((i : Nat) : Int)))]) (fun i => [(fillR Tm.cs [intD 0, strD ⟨#[]⟩] xs i).flatten]) (fun i => i ≤ xs.length) (fun i => xs.length - i) (0) (Nat.zero_le _) ⟨rfl, trivial⟩ ⟨⟨_, rfl, rfl⟩, ⟨_, rfl, rfl⟩, ⟨_, rfl, rfl⟩, trivial⟩ (congrArg (fun z => [List.flatten z]) (fillR_zero _ _ _).symm) ?_
  intro i hi
  refine AW.seq ?_
  refine AW.seq ?_
  refine AW.region ?_
  refine AO.xs rfl rfl rfl (XS.move rfl) ?_
  refine AO.xs rfl rfl rfl (XS.move rfl) ?_
  refine AO.xs rfl rfl rfl (XS.lenM rfl (el rfl)) ?_
  refine AO.xs rfl rfl rfl (XS.int rfl rfl rfl) ?_
  refine AO.nil ?_
  refine AW.cond rfl (fun hb1 => ?_) (fun hb1 => ?_)
  · skip
    replace hb1 := of_decide_eq_true hb1
    refine AW.skip ?_
    refine AW.seq ?_
    refine AW.block ?_
    refine AW.region ?_
    refine AO.xs rfl rfl rfl (XS.move rfl) ?_
    refine AO.xs rfl rfl rfl (XS.move rfl) ?_
    refine AO.xs rfl rfl rfl (XS.move rfl) ?_
    refine AO.xs rfl rfl rfl (XS.move rfl) ?_
    refine AO.xs rfl rfl rfl (XS.indexM rfl rfl (el rfl) (by omega) rfl) ?_
    refine AO.xs rfl rfl rfl (XS.loadEA rfl (ro rfl) (sz rfl) (Nat.le_of_ble_eq_true rfl)) ?_
    refine AO.xs rfl rfl rfl (XS.call rfl (by kernel_rfl) rfl toTerm_c) ?_
    refine AO.xs rfl rfl rfl (XS.indexRN rfl rfl (el rfl) (by omega)) ?_
    refine AO.storeR rfl rfl rfl rfl (sz rfl) rfl rfl (fillR_each (fun _ => rfl) rfl) (by rw [fillR_len (by omega)]; omega) rfl ?_
    refine AO.nil ?_
    refine AW.region ?_
    refine AO.xs rfl rfl rfl (XS.move rfl) ?_
    refine AO.xs rfl rfl rfl (XS.addI rfl rfl (by omega)) ?_
    refine AO.xs rfl rfl rfl (XS.assign rfl) ?_
    refine AO.nil ?_
    exact ⟨i + 1, (by omega), (by dsimp only; omega), ⟨rfl, trivial⟩, ⟨⟨_, rfl, rfl⟩, ⟨_, rfl, rfl⟩, ⟨_, rfl, rfl⟩, trivial⟩, (congrArg (fun z => [List.flatten z]) (fillR_set (by omega)))⟩
  · skip
    replace hb1 := of_decide_eq_false hb1
    refine AW.exit ?_
    refine AW.seq ?_
    obtain rfl : i = xs.length := by omega
    refine AW.setH (congrArg (fun z => [List.flatten z]) (fillR_all _ _ _)) ?_
    refine AW.region ?_
    refine AO.xs rfl rfl rfl (XS.move rfl) ?_
    refine AO.xs rfl rfl rfl (XS.assign rfl) ?_
    refine AO.nil ?_
    refine AW.freezeM 2 rfl (Nat.zero_le _) rfl (by decide) (fun _ _ => rfl) rfl ?_
    refine AW.ret ?_
    exact ⟨_, rfl, rfl⟩

set_option maxRecDepth 100000 in
theorem toRow_c {p : Rw} (h : p.sm) : AC Try.prog 115 [.ag p.cs] (fun d => d = .ag p.cs) := by
  refine AC.intro Try.func115 Try.ntmps115 Try.results115 rfl (by simp) (fun w0 T => ?_)
  refine AW.seq ?_
  refine AW.region ?_
  refine AO.box rfl rfl rfl rfl ?_
  refine AO.alloc rfl rfl (ze rfl) ?_
  refine AO.nil ?_
  refine AW.seq ?_
  refine AW.region ?_
  refine AO.alloc rfl rfl (ze rfl) ?_
  refine AO.nil ?_
  refine AW.seq ?_
  refine AW.region ?_
  refine AO.xs rfl rfl rfl (XS.field rfl (fo rfl)) ?_
  refine AO.xs rfl rfl rfl (XS.load rfl (on rfl) rfl rfl) ?_
  refine AO.xs rfl rfl rfl (XS.call rfl (by kernel_rfl) rfl (toTermS_c h.1)) ?_
  refine AO.xs rfl rfl rfl (XS.field rfl (fo rfl)) ?_
  refine AO.store rfl rfl rfl rfl (sz rfl) rfl rfl rfl rfl ?_
  refine AO.nil ?_
  refine AW.seq ?_
  refine AW.region ?_
  refine AO.xs rfl rfl rfl (XS.field rfl (fo rfl)) ?_
  refine AO.xs rfl rfl rfl (XS.load rfl (on rfl) rfl rfl) ?_
  refine AO.xs rfl rfl rfl (XS.call rfl (by kernel_rfl) rfl (toTermS_c h.2.1)) ?_
  refine AO.xs rfl rfl rfl (XS.field rfl (fo rfl)) ?_
  refine AO.store rfl rfl rfl rfl (sz rfl) rfl rfl rfl rfl ?_
  refine AO.nil ?_
  refine AW.seq ?_
  refine AW.region ?_
  refine AO.xs rfl rfl rfl (XS.field rfl (fo rfl)) ?_
  refine AO.xs rfl rfl rfl (XS.load rfl (on rfl) rfl rfl) ?_
  refine AO.xs rfl rfl rfl (XS.call rfl (by kernel_rfl) rfl (toTermS_c h.2.2)) ?_
  refine AO.xs rfl rfl rfl (XS.field rfl (fo rfl)) ?_
  refine AO.store rfl rfl rfl rfl (sz rfl) rfl rfl rfl rfl ?_
  refine AO.nil ?_
  refine AW.seq ?_
  refine AW.region ?_
  refine AO.xs rfl rfl rfl (XS.loadA rfl (ro rfl) (sz rfl) rfl (Nat.le_of_ble_eq_true rfl)) ?_
  refine AO.store rfl rfl rfl rfl (sz rfl) rfl rfl rfl rfl ?_
  refine AO.nil ?_
  refine AW.ret ?_
  exact ⟨_, rfl, rfl⟩

set_option maxRecDepth 100000 in
theorem toRowS_c {xs : List Rw} (h : xs.length ≤ 1048576) (h2 : ∀ r ∈ xs, r.sm) : AC Try.prog 82 [rowsD xs] (fun d => d = rowsD xs) := by
  refine AC.intro Try.func82 Try.ntmps82 Try.results82 rfl (by simp) (fun w0 T => ?_)
  refine AW.seq ?_
  refine AW.region ?_
  refine AO.xs rfl rfl rfl (XS.assign rfl) ?_
  refine AO.nil ?_
  refine AW.seq ?_
  refine AW.region ?_
  refine AO.xs rfl rfl rfl (XS.move rfl) ?_
  refine AO.xs rfl rfl rfl (XS.lenM rfl (el rfl)) ?_
  refine AO.makeN rfl rfl rfl rfl (ap rfl) (by omega) (by omega) (by omega) ?_
  refine AO.xs rfl rfl rfl (XS.assign rfl) ?_
  refine AO.nil ?_
  refine AW.seq ?_
  refine AW.seq ?_
  refine AW.region ?_
  refine AO.xs rfl rfl rfl (XS.assign rfl) ?_
  refine AO.nil ?_
  refine AW.block ?_
  refine AW.loop [0, 2, 3] (fun i => [(4, .d (intD ((i : Nat) : Int)))]) (fun i => [(fillR Rw.cs [.sl [], .sl [], .sl []] xs i).flatten]) (fun i => i ≤ xs.length) (fun i => xs.length - i) (0) (Nat.zero_le _) ⟨rfl, trivial⟩ ⟨⟨_, rfl, rfl⟩, ⟨_, rfl, rfl⟩, ⟨_, rfl, rfl⟩, trivial⟩ (congrArg (fun z => [List.flatten z]) (fillR_zero _ _ _).symm) ?_
  intro i hi
  refine AW.seq ?_
  refine AW.seq ?_
  refine AW.region ?_
  refine AO.xs rfl rfl rfl (XS.move rfl) ?_
  refine AO.xs rfl rfl rfl (XS.move rfl) ?_
  refine AO.xs rfl rfl rfl (XS.lenM rfl (el rfl)) ?_
  refine AO.xs rfl rfl rfl (XS.int rfl rfl rfl) ?_
  refine AO.nil ?_
  refine AW.cond rfl (fun hb1 => ?_) (fun hb1 => ?_)
  · skip
    replace hb1 := of_decide_eq_true hb1
    refine AW.skip ?_
    refine AW.seq ?_
    refine AW.block ?_
    refine AW.region ?_
    refine AO.xs rfl rfl rfl (XS.move rfl) ?_
    refine AO.xs rfl rfl rfl (XS.move rfl) ?_
    refine AO.xs rfl rfl rfl (XS.move rfl) ?_
    refine AO.xs rfl rfl rfl (XS.move rfl) ?_
    refine AO.xs rfl rfl rfl (XS.indexM rfl rfl (el rfl) (by omega) rfl) ?_
    refine AO.xs rfl rfl rfl (XS.loadEA rfl (ro rfl) (sz rfl) (Nat.le_of_ble_eq_true rfl)) ?_
    refine AO.xs rfl rfl rfl (XS.call rfl (by kernel_rfl) rfl (toRow_c (h2 _ (List.getElem_mem (by omega))))) ?_
    refine AO.xs rfl rfl rfl (XS.indexRN rfl rfl (el rfl) (by omega)) ?_
    refine AO.storeR rfl rfl rfl rfl (sz rfl) rfl rfl (fillR_each (fun _ => rfl) rfl) (by rw [fillR_len (by omega)]; omega) rfl ?_
    refine AO.nil ?_
    refine AW.region ?_
    refine AO.xs rfl rfl rfl (XS.move rfl) ?_
    refine AO.xs rfl rfl rfl (XS.addI rfl rfl (by omega)) ?_
    refine AO.xs rfl rfl rfl (XS.assign rfl) ?_
    refine AO.nil ?_
    exact ⟨i + 1, (by omega), (by dsimp only; omega), ⟨rfl, trivial⟩, ⟨⟨_, rfl, rfl⟩, ⟨_, rfl, rfl⟩, ⟨_, rfl, rfl⟩, trivial⟩, (congrArg (fun z => [List.flatten z]) (fillR_set (by omega)))⟩
  · skip
    replace hb1 := of_decide_eq_false hb1
    refine AW.exit ?_
    refine AW.seq ?_
    obtain rfl : i = xs.length := by omega
    refine AW.setH (congrArg (fun z => [List.flatten z]) (fillR_all _ _ _)) ?_
    refine AW.region ?_
    refine AO.xs rfl rfl rfl (XS.move rfl) ?_
    refine AO.xs rfl rfl rfl (XS.assign rfl) ?_
    refine AO.nil ?_
    refine AW.freezeM 2 rfl (Nat.zero_le _) rfl (by decide) (fun _ _ => rfl) rfl ?_
    refine AW.ret ?_
    exact ⟨_, rfl, rfl⟩

set_option maxRecDepth 100000 in
theorem toSystem_c {p : Sy} (h : p.sm) : AC Try.prog 36 [.ag p.cs] (fun d => d = .ag p.cs) := by
  refine AC.intro Try.func36 Try.ntmps36 Try.results36 rfl (by simp) (fun w0 T => ?_)
  refine AW.seq ?_
  refine AW.region ?_
  refine AO.box rfl rfl rfl rfl ?_
  refine AO.alloc rfl rfl (ze rfl) ?_
  refine AO.nil ?_
  refine AW.seq ?_
  refine AW.region ?_
  refine AO.alloc rfl rfl (ze rfl) ?_
  refine AO.nil ?_
  refine AW.seq ?_
  refine AW.region ?_
  refine AO.xs rfl rfl rfl (XS.field rfl (fo rfl)) ?_
  refine AO.xs rfl rfl rfl (XS.load rfl (on rfl) rfl rfl) ?_
  refine AO.xs rfl rfl rfl (XS.field rfl (fo rfl)) ?_
  refine AO.store rfl rfl rfl rfl (sz rfl) rfl rfl rfl rfl ?_
  refine AO.nil ?_
  refine AW.seq ?_
  refine AW.region ?_
  refine AO.xs rfl rfl rfl (XS.field rfl (fo rfl)) ?_
  refine AO.xs rfl rfl rfl (XS.load rfl (on rfl) rfl rfl) ?_
  refine AO.xs rfl rfl rfl (XS.field rfl (fo rfl)) ?_
  refine AO.store rfl rfl rfl rfl (sz rfl) rfl rfl rfl rfl ?_
  refine AO.nil ?_
  refine AW.seq ?_
  refine AW.region ?_
  refine AO.xs rfl rfl rfl (XS.field rfl (fo rfl)) ?_
  refine AO.xs rfl rfl rfl (XS.load rfl (on rfl) rfl rfl) ?_
  refine AO.xs rfl rfl rfl (XS.field rfl (fo rfl)) ?_
  refine AO.store rfl rfl rfl rfl (sz rfl) rfl rfl rfl rfl ?_
  refine AO.nil ?_
  refine AW.seq ?_
  refine AW.region ?_
  refine AO.xs rfl rfl rfl (XS.field rfl (fo rfl)) ?_
  refine AO.xs rfl rfl rfl (XS.load rfl (on rfl) rfl rfl) ?_
  refine AO.xs rfl rfl rfl (XS.field rfl (fo rfl)) ?_
  refine AO.store rfl rfl rfl rfl (sz rfl) rfl rfl rfl rfl ?_
  refine AO.nil ?_
  refine AW.seq ?_
  refine AW.region ?_
  refine AO.xs rfl rfl rfl (XS.field rfl (fo rfl)) ?_
  refine AO.xs rfl rfl rfl (XS.load rfl (on rfl) rfl rfl) ?_
  refine AO.xs rfl rfl rfl (XS.field rfl (fo rfl)) ?_
  refine AO.store rfl rfl rfl rfl (sz rfl) rfl rfl rfl rfl ?_
  refine AO.nil ?_
  refine AW.seq ?_
  refine AW.region ?_
  refine AO.xs rfl rfl rfl (XS.field rfl (fo rfl)) ?_
  refine AO.xs rfl rfl rfl (XS.load rfl (on rfl) rfl rfl) ?_
  refine AO.xs rfl rfl rfl (XS.call rfl (by kernel_rfl) rfl (toIntS_c h.1)) ?_
  refine AO.xs rfl rfl rfl (XS.field rfl (fo rfl)) ?_
  refine AO.store rfl rfl rfl rfl (sz rfl) rfl rfl rfl rfl ?_
  refine AO.nil ?_
  refine AW.seq ?_
  refine AW.region ?_
  refine AO.xs rfl rfl rfl (XS.field rfl (fo rfl)) ?_
  refine AO.xs rfl rfl rfl (XS.load rfl (on rfl) rfl rfl) ?_
  refine AO.xs rfl rfl rfl (XS.call rfl (by kernel_rfl) rfl (toRowS_c h.2.1 h.2.2)) ?_
  refine AO.xs rfl rfl rfl (XS.field rfl (fo rfl)) ?_
  refine AO.store rfl rfl rfl rfl (sz rfl) rfl rfl rfl rfl ?_
  refine AO.nil ?_
  refine AW.seq ?_
  refine AW.region ?_
  refine AO.xs rfl rfl rfl (XS.loadA rfl (ro rfl) (sz rfl) rfl (Nat.le_of_ble_eq_true rfl)) ?_
  refine AO.store rfl rfl rfl rfl (sz rfl) rfl rfl rfl rfl ?_
  refine AO.nil ?_
  refine AW.ret ?_
  exact ⟨_, rfl, rfl⟩

set_option maxRecDepth 100000 in
theorem szTerm_c {p : Tm} {l : Int} (hl : 0 ≤ l ∧ l ≤ 1048576) (hp : p.ok) : AC Try.prog 160 [.ag p.cs, intD l] (fun d => d = intD (left l p.n)) := by
  refine AC.intro Try.func160 Try.ntmps160 Try.results160 rfl (by simp) (fun w0 T => ?_)
  have hp2 := hp.2
  simp only [maxLen] at hp2
  refine AW.seq ?_
  refine AW.region ?_
  refine AO.box rfl rfl rfl rfl ?_
  refine AO.xs rfl rfl rfl (XS.assign rfl) ?_
  refine AO.nil ?_
  refine AW.seq ?_
  refine AW.region ?_
  refine AO.xs rfl rfl rfl (XS.move rfl) ?_
  refine AO.xs rfl rfl rfl (XS.field rfl (fo rfl)) ?_
  refine AO.xs rfl rfl rfl (XS.load rfl (on rfl) rfl rfl) ?_
  refine AO.xs rfl rfl rfl (XS.lenStr rfl (st rfl)) ?_
  refine AO.xs rfl rfl rfl (XS.subI rfl rfl (by omega)) ?_
  refine AO.xs rfl rfl rfl (XS.assign rfl) ?_
  refine AO.nil ?_
  refine AW.seq ?_
  refine AW.seq ?_
  refine AW.region ?_
  refine AO.xs rfl rfl rfl (XS.move rfl) ?_
  refine AO.xs rfl rfl rfl (XS.int rfl rfl rfl) ?_
  refine AO.nil ?_
  refine AW.cond rfl (fun hb1 => ?_) (fun hb1 => ?_)
  · skip
    replace hb1 := of_decide_eq_true hb1
    refine AW.seq ?_
    refine AW.region ?_
    refine AO.xs rfl rfl rfl (XS.assign rfl) ?_
    refine AO.nil ?_
    refine AW.ret ?_
    exact ⟨_, rfl, congrArg intD (left_out (fun hz => rfl) (fun hz => by simp only [Tm.n] at *; omega))⟩
  · skip
    replace hb1 := of_decide_eq_false hb1
    refine AW.skip ?_
    refine AW.seq ?_
    refine AW.region ?_
    refine AO.xs rfl rfl rfl (XS.move rfl) ?_
    refine AO.xs rfl rfl rfl (XS.assign rfl) ?_
    refine AO.nil ?_
    refine AW.ret ?_
    exact ⟨_, rfl, congrArg intD (left_out (fun hz => by simp only [Tm.n] at *; omega) (fun hz => rfl))⟩

set_option maxRecDepth 100000 in
theorem szTermS_c {xs : List Tm} {l : Int} (hl : 0 ≤ l ∧ l ≤ 1048576) (hn : xs.length ≤ maxLen) (hz : ∀ p ∈ xs, p.ok) : AC Try.prog 141 [tmsD xs, intD l] (fun d => d = intD (left l (tmsN xs))) := by
  refine AC.intro Try.func141 Try.ntmps141 Try.results141 rfl (by simp) (fun w0 T => ?_)
  simp only [maxLen] at hn
  refine AW.seq ?_
  refine AW.region ?_
  refine AO.xs rfl rfl rfl (XS.assign rfl) ?_
  refine AO.nil ?_
  refine AW.seq ?_
  refine AW.region ?_
  refine AO.xs rfl rfl rfl (XS.move rfl) ?_
  refine AO.xs rfl rfl rfl (XS.move rfl) ?_
  refine AO.xs rfl rfl rfl (XS.lenM rfl (el rfl)) ?_
  refine AO.xs rfl rfl rfl (XS.subI rfl rfl (by omega)) ?_
  refine AO.xs rfl rfl rfl (XS.assign rfl) ?_
  refine AO.nil ?_
  refine AW.seq ?_
  refine AW.seq ?_
  refine AW.region ?_
  refine AO.xs rfl rfl rfl (XS.move rfl) ?_
  refine AO.xs rfl rfl rfl (XS.int rfl rfl rfl) ?_
  refine AO.nil ?_
  refine AW.cond rfl (fun hb1 => ?_) (fun hb1 => ?_)
  · skip
    replace hb1 := of_decide_eq_true hb1
    refine AW.seq ?_
    refine AW.region ?_
    refine AO.xs rfl rfl rfl (XS.assign rfl) ?_
    refine AO.nil ?_
    refine AW.ret ?_
    exact ⟨_, rfl, congrArg intD (left_out (fun hz => rfl) (fun hz => by simp only [tmsN] at *; omega))⟩
  · skip
    replace hb1 := of_decide_eq_false hb1
    refine AW.skip ?_
    refine AW.seq ?_
    refine AW.seq ?_
    refine AW.region ?_
    refine AO.xs rfl rfl rfl (XS.assign rfl) ?_
    refine AO.nil ?_
    refine AW.block ?_
    refine AW.loop [0] (fun i => [(1, .d (intD (l - xs.length - ((xs.take i).map Tm.n).sum))), (5, .d (intD ((i : Nat) : Int)))]) (fun _ => _) (fun i => i ≤ xs.length ∧ 0 ≤ l - xs.length - ((xs.take i).map Tm.n).sum) (fun i => xs.length - i) (0) ⟨Nat.zero_le _, by simp; omega⟩ ⟨lk_I rfl (by simp), rfl, trivial⟩ ⟨⟨_, rfl, rfl⟩, trivial⟩ rfl ?_
    intro i ⟨hi, hk⟩
    refine AW.seq ?_
    refine AW.seq ?_
    refine AW.region ?_
    refine AO.xs rfl rfl rfl (XS.move rfl) ?_
    refine AO.xs rfl rfl rfl (XS.move rfl) ?_
    refine AO.xs rfl rfl rfl (XS.lenM rfl (el rfl)) ?_
    refine AO.xs rfl rfl rfl (XS.int rfl rfl rfl) ?_
    refine AO.nil ?_
    refine AW.cond rfl (fun hb2 => ?_) (fun hb2 => ?_)
    · skip
      replace hb2 := of_decide_eq_true hb2
      refine AW.skip ?_
      refine AW.seq ?_
      refine AW.block ?_
      refine AW.seq ?_
      refine AW.region ?_
      refine AO.xs rfl rfl rfl (XS.move rfl) ?_
      refine AO.xs rfl rfl rfl (XS.move rfl) ?_
      refine AO.xs rfl rfl rfl (XS.indexM rfl rfl (el rfl) (by omega) rfl) ?_
      refine AO.xs rfl rfl rfl (XS.loadEA rfl (ro rfl) (sz rfl) (Nat.le_of_ble_eq_true rfl)) ?_
      refine AO.xs rfl rfl rfl (XS.move rfl) ?_
      refine AO.xs rfl rfl rfl (XS.call rfl (by kernel_rfl) rfl (szTerm_c (by omega) (hz _ (List.getElem_mem (by omega))))) ?_
      refine AO.xs rfl rfl rfl (XS.assign rfl) ?_
      refine AO.nil ?_
      refine AW.seq ?_
      refine AW.region ?_
      refine AO.xs rfl rfl rfl (XS.move rfl) ?_
      refine AO.xs rfl rfl rfl (XS.int rfl rfl rfl) ?_
      refine AO.nil ?_
      refine AW.cond rfl (fun hb3 => ?_) (fun hb3 => ?_)
      · skip
        replace hb3 := of_decide_eq_true hb3
        have k3 := left_lt hb3 hk
        have h1 := sum_succ (f := Tm.n) (show i < xs.length by omega)
        have h2 := sum_le Tm.n xs (i + 1)
        refine AW.seq ?_
        refine AW.region ?_
        refine AO.xs rfl rfl rfl (XS.assign rfl) ?_
        refine AO.nil ?_
        refine AW.ret ?_
        exact ⟨_, rfl, congrArg intD (left_out (fun hz => rfl) (fun hz => by simp only [tmsN] at *; omega))⟩
      · skip
        replace hb3 := of_decide_eq_false hb3
        have k3 := left_ge hb3
        refine AW.skip ?_
        refine AW.region ?_
        refine AO.xs rfl rfl rfl (XS.move rfl) ?_
        refine AO.xs rfl rfl rfl (XS.addI rfl rfl (by omega)) ?_
        refine AO.xs rfl rfl rfl (XS.assign rfl) ?_
        refine AO.nil ?_
        exact ⟨i + 1, ⟨by omega, by rw [sum_succ (by omega)]; omega⟩, (by dsimp only; omega), ⟨lk_I rfl (by rw [sum_succ (by omega)]; omega), rfl, trivial⟩, ⟨⟨_, rfl, rfl⟩, trivial⟩, rfl⟩
    · skip
      replace hb2 := of_decide_eq_false hb2
      refine AW.exit ?_
      refine AW.seq ?_
      refine AW.region ?_
      refine AO.xs rfl rfl rfl (XS.move rfl) ?_
      refine AO.xs rfl rfl rfl (XS.assign rfl) ?_
      refine AO.nil ?_
      refine AW.ret ?_
      obtain rfl : i = xs.length := by omega
      rw [List.take_length] at *
      exact ⟨_, rfl, congrArg intD (left_out (fun hz => by simp only [tmsN] at *; omega) (fun hz => by simp only [tmsN] at *; omega))⟩

set_option maxRecDepth 100000 in
theorem szRow_c {p : Rw} {l : Int} (hl : 0 ≤ l ∧ l ≤ 1048576) (hp : p.ok) : AC Try.prog 114 [.ag p.cs, intD l] (fun d => d = intD (left l p.n)) := by
  refine AC.intro Try.func114 Try.ntmps114 Try.results114 rfl (by simp) (fun w0 T => ?_)
  refine AW.seq ?_
  refine AW.region ?_
  refine AO.box rfl rfl rfl rfl ?_
  refine AO.xs rfl rfl rfl (XS.assign rfl) ?_
  refine AO.nil ?_
  refine AW.seq ?_
  refine AW.region ?_
  refine AO.xs rfl rfl rfl (XS.field rfl (fo rfl)) ?_
  refine AO.xs rfl rfl rfl (XS.load rfl (on rfl) rfl rfl) ?_
  refine AO.xs rfl rfl rfl (XS.move rfl) ?_
  refine AO.xs rfl rfl rfl (XS.call rfl (by kernel_rfl) rfl (szTermS_c hl hp.1.1 hp.1.2)) ?_
  refine AO.xs rfl rfl rfl (XS.assign rfl) ?_
  refine AO.nil ?_
  refine AW.seq ?_
  refine AW.seq ?_
  refine AW.region ?_
  refine AO.xs rfl rfl rfl (XS.move rfl) ?_
  refine AO.xs rfl rfl rfl (XS.int rfl rfl rfl) ?_
  refine AO.nil ?_
  refine AW.cond rfl (fun hb1 => ?_) (fun hb1 => ?_)
  · skip
    replace hb1 := of_decide_eq_true hb1
    have k1 := left_lt hb1 (by omega)
    refine AW.seq ?_
    refine AW.region ?_
    refine AO.xs rfl rfl rfl (XS.assign rfl) ?_
    refine AO.nil ?_
    refine AW.ret ?_
    exact ⟨_, rfl, congrArg intD (left_out (fun hz => by first | rfl | (simp only [Rw.n] at *; omega)) (fun hz => by simp only [Rw.n] at *; omega))⟩
  · skip
    replace hb1 := of_decide_eq_false hb1
    have k1 := left_ge hb1
    refine AW.skip ?_
    refine AW.seq ?_
    refine AW.region ?_
    refine AO.xs rfl rfl rfl (XS.field rfl (fo rfl)) ?_
    refine AO.xs rfl rfl rfl (XS.load rfl (on rfl) rfl rfl) ?_
    refine AO.xs rfl rfl rfl (XS.move rfl) ?_
    refine AO.xs rfl rfl rfl (XS.call rfl (by kernel_rfl) rfl (szTermS_c (by omega) hp.2.1.1 hp.2.1.2)) ?_
    refine AO.xs rfl rfl rfl (XS.assign rfl) ?_
    refine AO.nil ?_
    refine AW.seq ?_
    refine AW.seq ?_
    refine AW.region ?_
    refine AO.xs rfl rfl rfl (XS.move rfl) ?_
    refine AO.xs rfl rfl rfl (XS.int rfl rfl rfl) ?_
    refine AO.nil ?_
    refine AW.cond rfl (fun hb2 => ?_) (fun hb2 => ?_)
    · skip
      replace hb2 := of_decide_eq_true hb2
      have k2 := left_lt hb2 (by omega)
      refine AW.seq ?_
      refine AW.region ?_
      refine AO.xs rfl rfl rfl (XS.assign rfl) ?_
      refine AO.nil ?_
      refine AW.ret ?_
      exact ⟨_, rfl, congrArg intD (left_out (fun hz => by first | rfl | (simp only [Rw.n] at *; omega)) (fun hz => by simp only [Rw.n] at *; omega))⟩
    · skip
      replace hb2 := of_decide_eq_false hb2
      have k2 := left_ge hb2
      refine AW.skip ?_
      refine AW.seq ?_
      refine AW.region ?_
      refine AO.xs rfl rfl rfl (XS.field rfl (fo rfl)) ?_
      refine AO.xs rfl rfl rfl (XS.load rfl (on rfl) rfl rfl) ?_
      refine AO.xs rfl rfl rfl (XS.move rfl) ?_
      refine AO.xs rfl rfl rfl (XS.call rfl (by kernel_rfl) rfl (szTermS_c (by omega) hp.2.2.1 hp.2.2.2)) ?_
      refine AO.xs rfl rfl rfl (XS.assign rfl) ?_
      refine AO.nil ?_
      refine AW.seq ?_
      refine AW.seq ?_
      refine AW.region ?_
      refine AO.xs rfl rfl rfl (XS.move rfl) ?_
      refine AO.xs rfl rfl rfl (XS.int rfl rfl rfl) ?_
      refine AO.nil ?_
      refine AW.cond rfl (fun hb3 => ?_) (fun hb3 => ?_)
      · skip
        replace hb3 := of_decide_eq_true hb3
        have k3 := left_lt hb3 (by omega)
        refine AW.seq ?_
        refine AW.region ?_
        refine AO.xs rfl rfl rfl (XS.assign rfl) ?_
        refine AO.nil ?_
        refine AW.ret ?_
        exact ⟨_, rfl, congrArg intD (left_out (fun hz => by first | rfl | (simp only [Rw.n] at *; omega)) (fun hz => by simp only [Rw.n] at *; omega))⟩
      · skip
        replace hb3 := of_decide_eq_false hb3
        have k3 := left_ge hb3
        refine AW.skip ?_
        refine AW.seq ?_
        refine AW.region ?_
        refine AO.xs rfl rfl rfl (XS.move rfl) ?_
        refine AO.xs rfl rfl rfl (XS.assign rfl) ?_
        refine AO.nil ?_
        refine AW.ret ?_
        exact ⟨_, rfl, congrArg intD (left_out (fun hz => by first | rfl | (simp only [Rw.n] at *; omega)) (fun hz => by simp only [Rw.n] at *; omega))⟩

set_option maxRecDepth 100000 in
theorem szRowS_c {xs : List Rw} {l : Int} (hl : 0 ≤ l ∧ l ≤ 1048576) (hn : xs.length ≤ maxLen) (hz : ∀ p ∈ xs, p.ok) : AC Try.prog 81 [rowsD xs, intD l] (fun d => d = intD (left l (rowsN xs))) := by
  refine AC.intro Try.func81 Try.ntmps81 Try.results81 rfl (by simp) (fun w0 T => ?_)
  simp only [maxLen] at hn
  refine AW.seq ?_
  refine AW.region ?_
  refine AO.xs rfl rfl rfl (XS.assign rfl) ?_
  refine AO.nil ?_
  refine AW.seq ?_
  refine AW.region ?_
  refine AO.xs rfl rfl rfl (XS.move rfl) ?_
  refine AO.xs rfl rfl rfl (XS.move rfl) ?_
  refine AO.xs rfl rfl rfl (XS.lenM rfl (el rfl)) ?_
  refine AO.xs rfl rfl rfl (XS.subI rfl rfl (by omega)) ?_
  refine AO.xs rfl rfl rfl (XS.assign rfl) ?_
  refine AO.nil ?_
  refine AW.seq ?_
  refine AW.seq ?_
  refine AW.region ?_
  refine AO.xs rfl rfl rfl (XS.move rfl) ?_
  refine AO.xs rfl rfl rfl (XS.int rfl rfl rfl) ?_
  refine AO.nil ?_
  refine AW.cond rfl (fun hb1 => ?_) (fun hb1 => ?_)
  · skip
    replace hb1 := of_decide_eq_true hb1
    refine AW.seq ?_
    refine AW.region ?_
    refine AO.xs rfl rfl rfl (XS.assign rfl) ?_
    refine AO.nil ?_
    refine AW.ret ?_
    exact ⟨_, rfl, congrArg intD (left_out (fun hz => rfl) (fun hz => by simp only [rowsN] at *; omega))⟩
  · skip
    replace hb1 := of_decide_eq_false hb1
    refine AW.skip ?_
    refine AW.seq ?_
    refine AW.seq ?_
    refine AW.region ?_
    refine AO.xs rfl rfl rfl (XS.assign rfl) ?_
    refine AO.nil ?_
    refine AW.block ?_
    refine AW.loop [0] (fun i => [(1, .d (intD (l - xs.length - ((xs.take i).map Rw.n).sum))), (5, .d (intD ((i : Nat) : Int)))]) (fun _ => _) (fun i => i ≤ xs.length ∧ 0 ≤ l - xs.length - ((xs.take i).map Rw.n).sum) (fun i => xs.length - i) (0) ⟨Nat.zero_le _, by simp; omega⟩ ⟨lk_I rfl (by simp), rfl, trivial⟩ ⟨⟨_, rfl, rfl⟩, trivial⟩ rfl ?_
    intro i ⟨hi, hk⟩
    refine AW.seq ?_
    refine AW.seq ?_
    refine AW.region ?_
    refine AO.xs rfl rfl rfl (XS.move rfl) ?_
    refine AO.xs rfl rfl rfl (XS.move rfl) ?_
    refine AO.xs rfl rfl rfl (XS.lenM rfl (el rfl)) ?_
    refine AO.xs rfl rfl rfl (XS.int rfl rfl rfl) ?_
    refine AO.nil ?_
    refine AW.cond rfl (fun hb2 => ?_) (fun hb2 => ?_)
    · skip
      replace hb2 := of_decide_eq_true hb2
      refine AW.skip ?_
      refine AW.seq ?_
      refine AW.block ?_
      refine AW.seq ?_
      refine AW.region ?_
      refine AO.xs rfl rfl rfl (XS.move rfl) ?_
      refine AO.xs rfl rfl rfl (XS.move rfl) ?_
      refine AO.xs rfl rfl rfl (XS.indexM rfl rfl (el rfl) (by omega) rfl) ?_
      refine AO.xs rfl rfl rfl (XS.loadEA rfl (ro rfl) (sz rfl) (Nat.le_of_ble_eq_true rfl)) ?_
      refine AO.xs rfl rfl rfl (XS.move rfl) ?_
      refine AO.xs rfl rfl rfl (XS.call rfl (by kernel_rfl) rfl (szRow_c (by omega) (hz _ (List.getElem_mem (by omega))))) ?_
      refine AO.xs rfl rfl rfl (XS.assign rfl) ?_
      refine AO.nil ?_
      refine AW.seq ?_
      refine AW.region ?_
      refine AO.xs rfl rfl rfl (XS.move rfl) ?_
      refine AO.xs rfl rfl rfl (XS.int rfl rfl rfl) ?_
      refine AO.nil ?_
      refine AW.cond rfl (fun hb3 => ?_) (fun hb3 => ?_)
      · skip
        replace hb3 := of_decide_eq_true hb3
        have k3 := left_lt hb3 hk
        have h1 := sum_succ (f := Rw.n) (show i < xs.length by omega)
        have h2 := sum_le Rw.n xs (i + 1)
        refine AW.seq ?_
        refine AW.region ?_
        refine AO.xs rfl rfl rfl (XS.assign rfl) ?_
        refine AO.nil ?_
        refine AW.ret ?_
        exact ⟨_, rfl, congrArg intD (left_out (fun hz => rfl) (fun hz => by simp only [rowsN] at *; omega))⟩
      · skip
        replace hb3 := of_decide_eq_false hb3
        have k3 := left_ge hb3
        refine AW.skip ?_
        refine AW.region ?_
        refine AO.xs rfl rfl rfl (XS.move rfl) ?_
        refine AO.xs rfl rfl rfl (XS.addI rfl rfl (by omega)) ?_
        refine AO.xs rfl rfl rfl (XS.assign rfl) ?_
        refine AO.nil ?_
        exact ⟨i + 1, ⟨by omega, by rw [sum_succ (by omega)]; omega⟩, (by dsimp only; omega), ⟨lk_I rfl (by rw [sum_succ (by omega)]; omega), rfl, trivial⟩, ⟨⟨_, rfl, rfl⟩, trivial⟩, rfl⟩
    · skip
      replace hb2 := of_decide_eq_false hb2
      refine AW.exit ?_
      refine AW.seq ?_
      refine AW.region ?_
      refine AO.xs rfl rfl rfl (XS.move rfl) ?_
      refine AO.xs rfl rfl rfl (XS.assign rfl) ?_
      refine AO.nil ?_
      refine AW.ret ?_
      obtain rfl : i = xs.length := by omega
      rw [List.take_length] at *
      exact ⟨_, rfl, congrArg intD (left_out (fun hz => by simp only [rowsN] at *; omega) (fun hz => by simp only [rowsN] at *; omega))⟩

set_option maxRecDepth 100000 in
theorem szIntS_c {xs : List Int} {l : Int} (hl : 0 ≤ l ∧ l ≤ 1048576) (hp : xs.length ≤ maxLen) : AC Try.prog 80 [intsD xs, intD l] (fun d => d = intD (left l xs.length)) := by
  refine AC.intro Try.func80 Try.ntmps80 Try.results80 rfl (by simp) (fun w0 T => ?_)
  simp only [maxLen] at hp
  refine AW.seq ?_
  refine AW.region ?_
  refine AO.xs rfl rfl rfl (XS.assign rfl) ?_
  refine AO.nil ?_
  refine AW.seq ?_
  refine AW.region ?_
  refine AO.xs rfl rfl rfl (XS.move rfl) ?_
  refine AO.xs rfl rfl rfl (XS.move rfl) ?_
  refine AO.xs rfl rfl rfl (XS.lenM rfl (el rfl)) ?_
  refine AO.xs rfl rfl rfl (XS.subI rfl rfl (by omega)) ?_
  refine AO.xs rfl rfl rfl (XS.assign rfl) ?_
  refine AO.nil ?_
  refine AW.seq ?_
  refine AW.seq ?_
  refine AW.region ?_
  refine AO.xs rfl rfl rfl (XS.move rfl) ?_
  refine AO.xs rfl rfl rfl (XS.int rfl rfl rfl) ?_
  refine AO.nil ?_
  refine AW.cond rfl (fun hb1 => ?_) (fun hb1 => ?_)
  · skip
    replace hb1 := of_decide_eq_true hb1
    refine AW.seq ?_
    refine AW.region ?_
    refine AO.xs rfl rfl rfl (XS.assign rfl) ?_
    refine AO.nil ?_
    refine AW.ret ?_
    exact ⟨_, rfl, congrArg intD (left_out (fun hz => by first | rfl | omega) (fun hz => by omega))⟩
  · skip
    replace hb1 := of_decide_eq_false hb1
    refine AW.skip ?_
    refine AW.seq ?_
    refine AW.region ?_
    refine AO.xs rfl rfl rfl (XS.move rfl) ?_
    refine AO.xs rfl rfl rfl (XS.assign rfl) ?_
    refine AO.nil ?_
    refine AW.ret ?_
    exact ⟨_, rfl, congrArg intD (left_out (fun hz => by first | rfl | omega) (fun hz => by omega))⟩

set_option maxRecDepth 100000 in
theorem szSystem_c {p : Sy} {l : Int} (hl : 0 ≤ l ∧ l ≤ 1048576) (hp : p.ok) : AC Try.prog 34 [.ag p.cs, intD l] (fun d => d = intD (left l p.n)) := by
  refine AC.intro Try.func34 Try.ntmps34 Try.results34 rfl (by simp) (fun w0 T => ?_)
  refine AW.seq ?_
  refine AW.region ?_
  refine AO.box rfl rfl rfl rfl ?_
  refine AO.xs rfl rfl rfl (XS.assign rfl) ?_
  refine AO.nil ?_
  refine AW.seq ?_
  refine AW.region ?_
  refine AO.xs rfl rfl rfl (XS.field rfl (fo rfl)) ?_
  refine AO.xs rfl rfl rfl (XS.load rfl (on rfl) rfl rfl) ?_
  refine AO.xs rfl rfl rfl (XS.move rfl) ?_
  refine AO.xs rfl rfl rfl (XS.call rfl (by kernel_rfl) rfl (szIntS_c hl hp.1)) ?_
  refine AO.xs rfl rfl rfl (XS.assign rfl) ?_
  refine AO.nil ?_
  refine AW.seq ?_
  refine AW.seq ?_
  refine AW.region ?_
  refine AO.xs rfl rfl rfl (XS.move rfl) ?_
  refine AO.xs rfl rfl rfl (XS.int rfl rfl rfl) ?_
  refine AO.nil ?_
  refine AW.cond rfl (fun hb1 => ?_) (fun hb1 => ?_)
  · skip
    replace hb1 := of_decide_eq_true hb1
    have k1 := left_lt hb1 (by omega)
    refine AW.seq ?_
    refine AW.region ?_
    refine AO.xs rfl rfl rfl (XS.assign rfl) ?_
    refine AO.nil ?_
    refine AW.ret ?_
    exact ⟨_, rfl, congrArg intD (left_out (fun hz => by first | rfl | (simp only [Sy.n] at *; omega)) (fun hz => by simp only [Sy.n] at *; omega))⟩
  · skip
    replace hb1 := of_decide_eq_false hb1
    have k1 := left_ge hb1
    refine AW.skip ?_
    refine AW.seq ?_
    refine AW.region ?_
    refine AO.xs rfl rfl rfl (XS.field rfl (fo rfl)) ?_
    refine AO.xs rfl rfl rfl (XS.load rfl (on rfl) rfl rfl) ?_
    refine AO.xs rfl rfl rfl (XS.move rfl) ?_
    refine AO.xs rfl rfl rfl (XS.call rfl (by kernel_rfl) rfl (szRowS_c (by omega) hp.2.1 hp.2.2)) ?_
    refine AO.xs rfl rfl rfl (XS.assign rfl) ?_
    refine AO.nil ?_
    refine AW.seq ?_
    refine AW.seq ?_
    refine AW.region ?_
    refine AO.xs rfl rfl rfl (XS.move rfl) ?_
    refine AO.xs rfl rfl rfl (XS.int rfl rfl rfl) ?_
    refine AO.nil ?_
    refine AW.cond rfl (fun hb2 => ?_) (fun hb2 => ?_)
    · skip
      replace hb2 := of_decide_eq_true hb2
      have k2 := left_lt hb2 (by omega)
      refine AW.seq ?_
      refine AW.region ?_
      refine AO.xs rfl rfl rfl (XS.assign rfl) ?_
      refine AO.nil ?_
      refine AW.ret ?_
      exact ⟨_, rfl, congrArg intD (left_out (fun hz => by first | rfl | (simp only [Sy.n] at *; omega)) (fun hz => by simp only [Sy.n] at *; omega))⟩
    · skip
      replace hb2 := of_decide_eq_false hb2
      have k2 := left_ge hb2
      refine AW.skip ?_
      refine AW.seq ?_
      refine AW.region ?_
      refine AO.xs rfl rfl rfl (XS.move rfl) ?_
      refine AO.xs rfl rfl rfl (XS.assign rfl) ?_
      refine AO.nil ?_
      refine AW.ret ?_
      exact ⟨_, rfl, congrArg intD (left_out (fun hz => by first | rfl | (simp only [Sy.n] at *; omega)) (fun hz => by simp only [Sy.n] at *; omega))⟩

set_option maxRecDepth 100000 in
theorem eqTerm_c {p q : Tm} : AC Try.prog 162 [.ag p.cs, .ag q.cs] (fun d => d = boolD (eqP (p = q))) := by
  refine AC.intro Try.func162 Try.ntmps162 Try.results162 rfl (by simp) (fun w0 T => ?_)
  refine AW.seq ?_
  refine AW.region ?_
  refine AO.box rfl rfl rfl rfl ?_
  refine AO.box rfl rfl rfl rfl ?_
  refine AO.xs rfl rfl rfl (XS.assign rfl) ?_
  refine AO.nil ?_
  refine AW.seq ?_
  refine AW.seq ?_
  refine AW.region ?_
  refine AO.xs rfl rfl rfl (XS.field rfl (fo rfl)) ?_
  refine AO.xs rfl rfl rfl (XS.load rfl (on rfl) rfl rfl) ?_
  refine AO.xs rfl rfl rfl (XS.field rfl (fo rfl)) ?_
  refine AO.xs rfl rfl rfl (XS.load rfl (on rfl) rfl rfl) ?_
  refine AO.xs rfl rfl rfl (XS.int rfl rfl rfl) ?_
  refine AO.nil ?_
  refine AW.cond rfl (fun hb1 => ?_) (fun hb1 => ?_)
  · skip
    replace hb1 := bne_iff_ne.1 hb1
    refine AW.seq ?_
    refine AW.region ?_
    refine AO.xs rfl rfl rfl (XS.assign rfl) ?_
    refine AO.nil ?_
    refine AW.ret ?_
    exact ⟨_, rfl, congrArg boolD (eqP_no (fun e => hb1 (by rw [e]))).symm⟩
  · skip
    replace hb1 := bne_eq_false_iff_eq.1 hb1
    refine AW.skip ?_
    refine AW.seq ?_
    refine AW.seq ?_
    refine AW.region ?_
    refine AO.xs rfl rfl rfl (XS.field rfl (fo rfl)) ?_
    refine AO.xs rfl rfl rfl (XS.load rfl (on rfl) rfl rfl) ?_
    refine AO.xs rfl rfl rfl (XS.field rfl (fo rfl)) ?_
    refine AO.xs rfl rfl rfl (XS.load rfl (on rfl) rfl rfl) ?_
    refine AO.xs rfl rfl rfl (XS.strNe rfl rfl) ?_
    refine AO.nil ?_
    refine AW.cond rfl (fun hb2 => ?_) (fun hb2 => ?_)
    · skip
      replace hb2 := eqP_iff.1 hb2
      refine AW.seq ?_
      refine AW.region ?_
      refine AO.xs rfl rfl rfl (XS.assign rfl) ?_
      refine AO.nil ?_
      refine AW.ret ?_
      exact ⟨_, rfl, congrArg boolD (eqP_no (fun e => hb2 (by rw [e]))).symm⟩
    · skip
      replace hb2 := eqP_false.1 hb2
      refine AW.skip ?_
      refine AW.seq ?_
      refine AW.region ?_
      refine AO.xs rfl rfl rfl (XS.assign rfl) ?_
      refine AO.nil ?_
      refine AW.ret ?_
      exact ⟨_, rfl, congrArg boolD (eqP_yes (Tm.cs_inj.1 (by simp only [Tm.cs, hb1, Classical.not_not.1 hb2]))).symm⟩

set_option maxRecDepth 100000 in
theorem eqTermS_c {xs ys : List Tm} (hx : xs.length ≤ 1048576) : AC Try.prog 143 [tmsD xs, tmsD ys] (fun d => d = boolD (eqP (xs = ys))) := by
  refine AC.intro Try.func143 Try.ntmps143 Try.results143 rfl (by simp) (fun w0 T => ?_)
  refine AW.seq ?_
  refine AW.region ?_
  refine AO.xs rfl rfl rfl (XS.assign rfl) ?_
  refine AO.nil ?_
  refine AW.seq ?_
  refine AW.seq ?_
  refine AW.region ?_
  refine AO.xs rfl rfl rfl (XS.move rfl) ?_
  refine AO.xs rfl rfl rfl (XS.lenM rfl (el rfl)) ?_
  refine AO.xs rfl rfl rfl (XS.move rfl) ?_
  refine AO.xs rfl rfl rfl (XS.lenM rfl (el rfl)) ?_
  refine AO.xs rfl rfl rfl (XS.int rfl rfl rfl) ?_
  refine AO.nil ?_
  refine AW.cond rfl (fun hb1 => ?_) (fun hb1 => ?_)
  · skip
    replace hb1 := bne_iff_ne.1 hb1
    refine AW.seq ?_
    refine AW.region ?_
    refine AO.xs rfl rfl rfl (XS.assign rfl) ?_
    refine AO.nil ?_
    refine AW.ret ?_
    exact ⟨_, rfl, congrArg boolD (eqP_no (fun e => hb1 (by rw [e]))).symm⟩
  · skip
    replace hb1 := bne_eq_false_iff_eq.1 hb1
    refine AW.skip ?_
    refine AW.seq ?_
    refine AW.seq ?_
    refine AW.region ?_
    refine AO.xs rfl rfl rfl (XS.assign rfl) ?_
    refine AO.nil ?_
    refine AW.block ?_
    refine AW.loop [0, 1] (fun i => [(5, .d (intD ((i : Nat) : Int)))]) (fun _ => _) (fun i => i ≤ xs.length ∧ xs.take i = ys.take i) (fun i => xs.length - i) (0) ⟨Nat.zero_le _, by simp⟩ ⟨rfl, trivial⟩ ⟨⟨_, rfl, rfl⟩, ⟨_, rfl, rfl⟩, trivial⟩ rfl ?_
    intro i ⟨hi, hk⟩
    refine AW.seq ?_
    refine AW.seq ?_
    refine AW.region ?_
    refine AO.xs rfl rfl rfl (XS.move rfl) ?_
    refine AO.xs rfl rfl rfl (XS.move rfl) ?_
    refine AO.xs rfl rfl rfl (XS.lenM rfl (el rfl)) ?_
    refine AO.xs rfl rfl rfl (XS.int rfl rfl rfl) ?_
    refine AO.nil ?_
    refine AW.cond rfl (fun hb2 => ?_) (fun hb2 => ?_)
    · skip
      replace hb2 := of_decide_eq_true hb2
      refine AW.skip ?_
      refine AW.seq ?_
      refine AW.block ?_
      refine AW.seq ?_
      refine AW.drawn mix ?_
      refine DC.cons rfl rfl rfl (XS.move rfl) ?_
      refine DC.cons rfl rfl rfl (XS.move rfl) ?_
      refine DC.cons rfl rfl rfl (XS.indexM rfl rfl (el rfl) (by omega) rfl) ?_
      refine DC.cons rfl rfl rfl (XS.loadEA rfl (ro rfl) (sz rfl) (Nat.le_of_ble_eq_true rfl)) ?_
      refine DC.cons rfl rfl rfl (XS.move rfl) ?_
      refine DC.cons rfl rfl rfl (XS.move rfl) ?_
      refine DC.cons rfl rfl rfl (XS.indexM rfl rfl (el rfl) (by omega) rfl) ?_
      refine DC.cons rfl rfl rfl (XS.loadEA rfl (ro rfl) (sz rfl) (Nat.le_of_ble_eq_true rfl)) ?_
      refine DC.cons rfl rfl rfl (XS.call rfl (by kernel_rfl) rfl eqTerm_c) ?_
      refine DC.cons rfl rfl rfl (XS.not rfl) ?_
      refine DC.done (by kernel_rfl) ?_
      refine AO.nil ?_
      refine AW.cond rfl (fun hb3 => ?_) (fun hb3 => ?_)
      · skip
        replace hb3 := eqP_false.1 (notT hb3)
        refine AW.seq ?_
        refine AW.region ?_
        refine AO.xs rfl rfl rfl (XS.assign rfl) ?_
        refine AO.nil ?_
        refine AW.ret ?_
        exact ⟨_, rfl, congrArg boolD (eqP_no (fun e => hb3 (by subst e; rfl))).symm⟩
      · skip
        replace hb3 := eqP_iff.1 (notF hb3)
        refine AW.skip ?_
        refine AW.region ?_
        refine AO.xs rfl rfl rfl (XS.move rfl) ?_
        refine AO.xs rfl rfl rfl (XS.addI rfl rfl (by omega)) ?_
        refine AO.xs rfl rfl rfl (XS.assign rfl) ?_
        refine AO.nil ?_
        exact ⟨i + 1, ⟨by omega, take_next (by omega) (by omega) hk (hb3)⟩, (by dsimp only; omega), ⟨rfl, trivial⟩, ⟨⟨_, rfl, rfl⟩, ⟨_, rfl, rfl⟩, trivial⟩, rfl⟩
    · skip
      replace hb2 := of_decide_eq_false hb2
      refine AW.exit ?_
      refine AW.seq ?_
      refine AW.region ?_
      refine AO.xs rfl rfl rfl (XS.assign rfl) ?_
      refine AO.nil ?_
      refine AW.ret ?_
      obtain rfl : i = xs.length := by omega
      exact ⟨_, rfl, congrArg boolD (eqP_yes (take_all hk (by omega))).symm⟩

set_option maxRecDepth 100000 in
theorem eqRow_c {p q : Rw} (h : p.sm) : AC Try.prog 116 [.ag p.cs, .ag q.cs] (fun d => d = boolD (eqP (p = q))) := by
  refine AC.intro Try.func116 Try.ntmps116 Try.results116 rfl (by simp) (fun w0 T => ?_)
  refine AW.seq ?_
  refine AW.region ?_
  refine AO.box rfl rfl rfl rfl ?_
  refine AO.box rfl rfl rfl rfl ?_
  refine AO.xs rfl rfl rfl (XS.assign rfl) ?_
  refine AO.nil ?_
  refine AW.seq ?_
  refine AW.seq ?_
  refine AW.region ?_
  refine AO.xs rfl rfl rfl (XS.field rfl (fo rfl)) ?_
  refine AO.xs rfl rfl rfl (XS.load rfl (on rfl) rfl rfl) ?_
  refine AO.xs rfl rfl rfl (XS.field rfl (fo rfl)) ?_
  refine AO.xs rfl rfl rfl (XS.load rfl (on rfl) rfl rfl) ?_
  refine AO.xs rfl rfl rfl (XS.call rfl (by kernel_rfl) rfl (eqTermS_c h.1)) ?_
  refine AO.xs rfl rfl rfl (XS.not rfl) ?_
  refine AO.nil ?_
  refine AW.cond rfl (fun hb1 => ?_) (fun hb1 => ?_)
  · skip
    replace hb1 := eqP_false.1 (notT hb1)
    refine AW.seq ?_
    refine AW.region ?_
    refine AO.xs rfl rfl rfl (XS.assign rfl) ?_
    refine AO.nil ?_
    refine AW.ret ?_
    exact ⟨_, rfl, congrArg boolD (eqP_no (fun e => hb1 (by rw [e]))).symm⟩
  · skip
    replace hb1 := eqP_iff.1 (notF hb1)
    refine AW.skip ?_
    refine AW.seq ?_
    refine AW.seq ?_
    refine AW.region ?_
    refine AO.xs rfl rfl rfl (XS.field rfl (fo rfl)) ?_
    refine AO.xs rfl rfl rfl (XS.load rfl (on rfl) rfl rfl) ?_
    refine AO.xs rfl rfl rfl (XS.field rfl (fo rfl)) ?_
    refine AO.xs rfl rfl rfl (XS.load rfl (on rfl) rfl rfl) ?_
    refine AO.xs rfl rfl rfl (XS.call rfl (by kernel_rfl) rfl (eqTermS_c h.2.1)) ?_
    refine AO.xs rfl rfl rfl (XS.not rfl) ?_
    refine AO.nil ?_
    refine AW.cond rfl (fun hb2 => ?_) (fun hb2 => ?_)
    · skip
      replace hb2 := eqP_false.1 (notT hb2)
      refine AW.seq ?_
      refine AW.region ?_
      refine AO.xs rfl rfl rfl (XS.assign rfl) ?_
      refine AO.nil ?_
      refine AW.ret ?_
      exact ⟨_, rfl, congrArg boolD (eqP_no (fun e => hb2 (by rw [e]))).symm⟩
    · skip
      replace hb2 := eqP_iff.1 (notF hb2)
      refine AW.skip ?_
      refine AW.seq ?_
      refine AW.seq ?_
      refine AW.region ?_
      refine AO.xs rfl rfl rfl (XS.field rfl (fo rfl)) ?_
      refine AO.xs rfl rfl rfl (XS.load rfl (on rfl) rfl rfl) ?_
      refine AO.xs rfl rfl rfl (XS.field rfl (fo rfl)) ?_
      refine AO.xs rfl rfl rfl (XS.load rfl (on rfl) rfl rfl) ?_
      refine AO.xs rfl rfl rfl (XS.call rfl (by kernel_rfl) rfl (eqTermS_c h.2.2)) ?_
      refine AO.xs rfl rfl rfl (XS.not rfl) ?_
      refine AO.nil ?_
      refine AW.cond rfl (fun hb3 => ?_) (fun hb3 => ?_)
      · skip
        replace hb3 := eqP_false.1 (notT hb3)
        refine AW.seq ?_
        refine AW.region ?_
        refine AO.xs rfl rfl rfl (XS.assign rfl) ?_
        refine AO.nil ?_
        refine AW.ret ?_
        exact ⟨_, rfl, congrArg boolD (eqP_no (fun e => hb3 (by rw [e]))).symm⟩
      · skip
        replace hb3 := eqP_iff.1 (notF hb3)
        refine AW.skip ?_
        refine AW.seq ?_
        refine AW.region ?_
        refine AO.xs rfl rfl rfl (XS.assign rfl) ?_
        refine AO.nil ?_
        refine AW.ret ?_
        exact ⟨_, rfl, congrArg boolD (eqP_yes (Rw.ext_iff.2 ⟨hb1, hb2, hb3⟩)).symm⟩

set_option maxRecDepth 100000 in
theorem eqRowS_c {xs ys : List Rw} (hx : xs.length ≤ 1048576) (h2 : ∀ r ∈ xs, r.sm) : AC Try.prog 84 [rowsD xs, rowsD ys] (fun d => d = boolD (eqP (xs = ys))) := by
  refine AC.intro Try.func84 Try.ntmps84 Try.results84 rfl (by simp) (fun w0 T => ?_)
  refine AW.seq ?_
  refine AW.region ?_
  refine AO.xs rfl rfl rfl (XS.assign rfl) ?_
  refine AO.nil ?_
  refine AW.seq ?_
  refine AW.seq ?_
  refine AW.region ?_
  refine AO.xs rfl rfl rfl (XS.move rfl) ?_
  refine AO.xs rfl rfl rfl (XS.lenM rfl (el rfl)) ?_
  refine AO.xs rfl rfl rfl (XS.move rfl) ?_
  refine AO.xs rfl rfl rfl (XS.lenM rfl (el rfl)) ?_
  refine AO.xs rfl rfl rfl (XS.int rfl rfl rfl) ?_
  refine AO.nil ?_
  refine AW.cond rfl (fun hb1 => ?_) (fun hb1 => ?_)
  · skip
    replace hb1 := bne_iff_ne.1 hb1
    refine AW.seq ?_
    refine AW.region ?_
    refine AO.xs rfl rfl rfl (XS.assign rfl) ?_
    refine AO.nil ?_
    refine AW.ret ?_
    exact ⟨_, rfl, congrArg boolD (eqP_no (fun e => hb1 (by rw [e]))).symm⟩
  · skip
    replace hb1 := bne_eq_false_iff_eq.1 hb1
    refine AW.skip ?_
    refine AW.seq ?_
    refine AW.seq ?_
    refine AW.region ?_
    refine AO.xs rfl rfl rfl (XS.assign rfl) ?_
    refine AO.nil ?_
    refine AW.block ?_
    refine AW.loop [0, 1] (fun i => [(5, .d (intD ((i : Nat) : Int)))]) (fun _ => _) (fun i => i ≤ xs.length ∧ xs.take i = ys.take i) (fun i => xs.length - i) (0) ⟨Nat.zero_le _, by simp⟩ ⟨rfl, trivial⟩ ⟨⟨_, rfl, rfl⟩, ⟨_, rfl, rfl⟩, trivial⟩ rfl ?_
    intro i ⟨hi, hk⟩
    refine AW.seq ?_
    refine AW.seq ?_
    refine AW.region ?_
    refine AO.xs rfl rfl rfl (XS.move rfl) ?_
    refine AO.xs rfl rfl rfl (XS.move rfl) ?_
    refine AO.xs rfl rfl rfl (XS.lenM rfl (el rfl)) ?_
    refine AO.xs rfl rfl rfl (XS.int rfl rfl rfl) ?_
    refine AO.nil ?_
    refine AW.cond rfl (fun hb2 => ?_) (fun hb2 => ?_)
    · skip
      replace hb2 := of_decide_eq_true hb2
      refine AW.skip ?_
      refine AW.seq ?_
      refine AW.block ?_
      refine AW.seq ?_
      refine AW.drawn mix ?_
      refine DC.cons rfl rfl rfl (XS.move rfl) ?_
      refine DC.cons rfl rfl rfl (XS.move rfl) ?_
      refine DC.cons rfl rfl rfl (XS.indexM rfl rfl (el rfl) (by omega) rfl) ?_
      refine DC.cons rfl rfl rfl (XS.loadEA rfl (ro rfl) (sz rfl) (Nat.le_of_ble_eq_true rfl)) ?_
      refine DC.cons rfl rfl rfl (XS.move rfl) ?_
      refine DC.cons rfl rfl rfl (XS.move rfl) ?_
      refine DC.cons rfl rfl rfl (XS.indexM rfl rfl (el rfl) (by omega) rfl) ?_
      refine DC.cons rfl rfl rfl (XS.loadEA rfl (ro rfl) (sz rfl) (Nat.le_of_ble_eq_true rfl)) ?_
      refine DC.cons rfl rfl rfl (XS.call rfl (by kernel_rfl) rfl (eqRow_c (h2 _ (List.getElem_mem (by omega))))) ?_
      refine DC.cons rfl rfl rfl (XS.not rfl) ?_
      refine DC.done (by kernel_rfl) ?_
      refine AO.nil ?_
      refine AW.cond rfl (fun hb3 => ?_) (fun hb3 => ?_)
      · skip
        replace hb3 := eqP_false.1 (notT hb3)
        refine AW.seq ?_
        refine AW.region ?_
        refine AO.xs rfl rfl rfl (XS.assign rfl) ?_
        refine AO.nil ?_
        refine AW.ret ?_
        exact ⟨_, rfl, congrArg boolD (eqP_no (fun e => hb3 (by subst e; rfl))).symm⟩
      · skip
        replace hb3 := eqP_iff.1 (notF hb3)
        refine AW.skip ?_
        refine AW.region ?_
        refine AO.xs rfl rfl rfl (XS.move rfl) ?_
        refine AO.xs rfl rfl rfl (XS.addI rfl rfl (by omega)) ?_
        refine AO.xs rfl rfl rfl (XS.assign rfl) ?_
        refine AO.nil ?_
        exact ⟨i + 1, ⟨by omega, take_next (by omega) (by omega) hk (hb3)⟩, (by dsimp only; omega), ⟨rfl, trivial⟩, ⟨⟨_, rfl, rfl⟩, ⟨_, rfl, rfl⟩, trivial⟩, rfl⟩
    · skip
      replace hb2 := of_decide_eq_false hb2
      refine AW.exit ?_
      refine AW.seq ?_
      refine AW.region ?_
      refine AO.xs rfl rfl rfl (XS.assign rfl) ?_
      refine AO.nil ?_
      refine AW.ret ?_
      obtain rfl : i = xs.length := by omega
      exact ⟨_, rfl, congrArg boolD (eqP_yes (take_all hk (by omega))).symm⟩

set_option maxRecDepth 100000 in
theorem eqIntS_c {xs ys : List Int} (hx : xs.length ≤ 1048576) : AC Try.prog 51 [intsD xs, intsD ys] (fun d => d = boolD (eqP (xs = ys))) := by
  refine AC.intro Try.func51 Try.ntmps51 Try.results51 rfl (by simp) (fun w0 T => ?_)
  refine AW.seq ?_
  refine AW.region ?_
  refine AO.xs rfl rfl rfl (XS.assign rfl) ?_
  refine AO.nil ?_
  refine AW.seq ?_
  refine AW.seq ?_
  refine AW.region ?_
  refine AO.xs rfl rfl rfl (XS.move rfl) ?_
  refine AO.xs rfl rfl rfl (XS.lenM rfl (el rfl)) ?_
  refine AO.xs rfl rfl rfl (XS.move rfl) ?_
  refine AO.xs rfl rfl rfl (XS.lenM rfl (el rfl)) ?_
  refine AO.xs rfl rfl rfl (XS.int rfl rfl rfl) ?_
  refine AO.nil ?_
  refine AW.cond rfl (fun hb1 => ?_) (fun hb1 => ?_)
  · skip
    replace hb1 := bne_iff_ne.1 hb1
    refine AW.seq ?_
    refine AW.region ?_
    refine AO.xs rfl rfl rfl (XS.assign rfl) ?_
    refine AO.nil ?_
    refine AW.ret ?_
    exact ⟨_, rfl, congrArg boolD (eqP_no (fun e => hb1 (by rw [e]))).symm⟩
  · skip
    replace hb1 := bne_eq_false_iff_eq.1 hb1
    refine AW.skip ?_
    refine AW.seq ?_
    refine AW.seq ?_
    refine AW.region ?_
    refine AO.xs rfl rfl rfl (XS.assign rfl) ?_
    refine AO.nil ?_
    refine AW.block ?_
    refine AW.loop [0, 1] (fun i => [(5, .d (intD ((i : Nat) : Int)))]) (fun _ => _) (fun i => i ≤ xs.length ∧ xs.take i = ys.take i) (fun i => xs.length - i) (0) ⟨Nat.zero_le _, by simp⟩ ⟨rfl, trivial⟩ ⟨⟨_, rfl, rfl⟩, ⟨_, rfl, rfl⟩, trivial⟩ rfl ?_
    intro i ⟨hi, hk⟩
    refine AW.seq ?_
    refine AW.seq ?_
    refine AW.region ?_
    refine AO.xs rfl rfl rfl (XS.move rfl) ?_
    refine AO.xs rfl rfl rfl (XS.move rfl) ?_
    refine AO.xs rfl rfl rfl (XS.lenM rfl (el rfl)) ?_
    refine AO.xs rfl rfl rfl (XS.int rfl rfl rfl) ?_
    refine AO.nil ?_
    refine AW.cond rfl (fun hb2 => ?_) (fun hb2 => ?_)
    · skip
      replace hb2 := of_decide_eq_true hb2
      refine AW.skip ?_
      refine AW.seq ?_
      refine AW.block ?_
      refine AW.seq ?_
      refine AW.drawn mix ?_
      refine DC.cons rfl rfl rfl (XS.move rfl) ?_
      refine DC.cons rfl rfl rfl (XS.move rfl) ?_
      refine DC.cons rfl rfl rfl (XS.indexM rfl rfl (el rfl) (by omega) rfl) ?_
      refine DC.cons rfl rfl rfl (XS.loadE rfl (on rfl) rfl) ?_
      refine DC.cons rfl rfl rfl (XS.move rfl) ?_
      refine DC.cons rfl rfl rfl (XS.move rfl) ?_
      refine DC.cons rfl rfl rfl (XS.indexM rfl rfl (el rfl) (by omega) rfl) ?_
      refine DC.cons rfl rfl rfl (XS.loadE rfl (on rfl) rfl) ?_
      refine DC.cons rfl rfl rfl (XS.int rfl rfl rfl) ?_
      refine DC.done (by kernel_rfl) ?_
      refine AO.nil ?_
      refine AW.cond rfl (fun hb3 => ?_) (fun hb3 => ?_)
      · skip
        replace hb3 := bne_iff_ne.1 hb3
        refine AW.seq ?_
        refine AW.region ?_
        refine AO.xs rfl rfl rfl (XS.assign rfl) ?_
        refine AO.nil ?_
        refine AW.ret ?_
        exact ⟨_, rfl, congrArg boolD (eqP_no (fun e => hb3 (by subst e; rfl))).symm⟩
      · skip
        replace hb3 := bne_eq_false_iff_eq.1 hb3
        refine AW.skip ?_
        refine AW.region ?_
        refine AO.xs rfl rfl rfl (XS.move rfl) ?_
        refine AO.xs rfl rfl rfl (XS.addI rfl rfl (by omega)) ?_
        refine AO.xs rfl rfl rfl (XS.assign rfl) ?_
        refine AO.nil ?_
        exact ⟨i + 1, ⟨by omega, take_next (by omega) (by omega) hk (hb3)⟩, (by dsimp only; omega), ⟨rfl, trivial⟩, ⟨⟨_, rfl, rfl⟩, ⟨_, rfl, rfl⟩, trivial⟩, rfl⟩
    · skip
      replace hb2 := of_decide_eq_false hb2
      refine AW.exit ?_
      refine AW.seq ?_
      refine AW.region ?_
      refine AO.xs rfl rfl rfl (XS.assign rfl) ?_
      refine AO.nil ?_
      refine AW.ret ?_
      obtain rfl : i = xs.length := by omega
      exact ⟨_, rfl, congrArg boolD (eqP_yes (take_all hk (by omega))).symm⟩

set_option maxRecDepth 100000 in
theorem eqSystem_c {p q : Sy} (h : p.sm) : AC Try.prog 38 [.ag p.cs, .ag q.cs] (fun d => d = boolD (eqP (p = q))) := by
  refine AC.intro Try.func38 Try.ntmps38 Try.results38 rfl (by simp) (fun w0 T => ?_)
  refine AW.seq ?_
  refine AW.region ?_
  refine AO.box rfl rfl rfl rfl ?_
  refine AO.box rfl rfl rfl rfl ?_
  refine AO.xs rfl rfl rfl (XS.assign rfl) ?_
  refine AO.nil ?_
  refine AW.seq ?_
  refine AW.seq ?_
  refine AW.region ?_
  refine AO.xs rfl rfl rfl (XS.field rfl (fo rfl)) ?_
  refine AO.xs rfl rfl rfl (XS.load rfl (on rfl) rfl rfl) ?_
  refine AO.xs rfl rfl rfl (XS.field rfl (fo rfl)) ?_
  refine AO.xs rfl rfl rfl (XS.load rfl (on rfl) rfl rfl) ?_
  refine AO.xs rfl rfl rfl (XS.int rfl rfl rfl) ?_
  refine AO.nil ?_
  refine AW.cond rfl (fun hb1 => ?_) (fun hb1 => ?_)
  · skip
    replace hb1 := bne_iff_ne.1 hb1
    refine AW.seq ?_
    refine AW.region ?_
    refine AO.xs rfl rfl rfl (XS.assign rfl) ?_
    refine AO.nil ?_
    refine AW.ret ?_
    exact ⟨_, rfl, congrArg boolD (eqP_no (fun e => hb1 (by rw [e]))).symm⟩
  · skip
    replace hb1 := bne_eq_false_iff_eq.1 hb1
    refine AW.skip ?_
    refine AW.seq ?_
    refine AW.seq ?_
    refine AW.region ?_
    refine AO.xs rfl rfl rfl (XS.field rfl (fo rfl)) ?_
    refine AO.xs rfl rfl rfl (XS.load rfl (on rfl) rfl rfl) ?_
    refine AO.xs rfl rfl rfl (XS.field rfl (fo rfl)) ?_
    refine AO.xs rfl rfl rfl (XS.load rfl (on rfl) rfl rfl) ?_
    refine AO.xs rfl rfl rfl (XS.int rfl rfl rfl) ?_
    refine AO.nil ?_
    refine AW.cond rfl (fun hb2 => ?_) (fun hb2 => ?_)
    · skip
      replace hb2 := bne_iff_ne.1 hb2
      refine AW.seq ?_
      refine AW.region ?_
      refine AO.xs rfl rfl rfl (XS.assign rfl) ?_
      refine AO.nil ?_
      refine AW.ret ?_
      exact ⟨_, rfl, congrArg boolD (eqP_no (fun e => hb2 (by rw [e]))).symm⟩
    · skip
      replace hb2 := bne_eq_false_iff_eq.1 hb2
      refine AW.skip ?_
      refine AW.seq ?_
      refine AW.seq ?_
      refine AW.region ?_
      refine AO.xs rfl rfl rfl (XS.field rfl (fo rfl)) ?_
      refine AO.xs rfl rfl rfl (XS.load rfl (on rfl) rfl rfl) ?_
      refine AO.xs rfl rfl rfl (XS.field rfl (fo rfl)) ?_
      refine AO.xs rfl rfl rfl (XS.load rfl (on rfl) rfl rfl) ?_
      refine AO.xs rfl rfl rfl (XS.int rfl rfl rfl) ?_
      refine AO.nil ?_
      refine AW.cond rfl (fun hb3 => ?_) (fun hb3 => ?_)
      · skip
        replace hb3 := bne_iff_ne.1 hb3
        refine AW.seq ?_
        refine AW.region ?_
        refine AO.xs rfl rfl rfl (XS.assign rfl) ?_
        refine AO.nil ?_
        refine AW.ret ?_
        exact ⟨_, rfl, congrArg boolD (eqP_no (fun e => hb3 (by rw [e]))).symm⟩
      · skip
        replace hb3 := bne_eq_false_iff_eq.1 hb3
        refine AW.skip ?_
        refine AW.seq ?_
        refine AW.seq ?_
        refine AW.region ?_
        refine AO.xs rfl rfl rfl (XS.field rfl (fo rfl)) ?_
        refine AO.xs rfl rfl rfl (XS.load rfl (on rfl) rfl rfl) ?_
        refine AO.xs rfl rfl rfl (XS.field rfl (fo rfl)) ?_
        refine AO.xs rfl rfl rfl (XS.load rfl (on rfl) rfl rfl) ?_
        refine AO.xs rfl rfl rfl (XS.int rfl rfl rfl) ?_
        refine AO.nil ?_
        refine AW.cond rfl (fun hb4 => ?_) (fun hb4 => ?_)
        · skip
          replace hb4 := bne_iff_ne.1 hb4
          refine AW.seq ?_
          refine AW.region ?_
          refine AO.xs rfl rfl rfl (XS.assign rfl) ?_
          refine AO.nil ?_
          refine AW.ret ?_
          exact ⟨_, rfl, congrArg boolD (eqP_no (fun e => hb4 (by rw [e]))).symm⟩
        · skip
          replace hb4 := bne_eq_false_iff_eq.1 hb4
          refine AW.skip ?_
          refine AW.seq ?_
          refine AW.seq ?_
          refine AW.region ?_
          refine AO.xs rfl rfl rfl (XS.field rfl (fo rfl)) ?_
          refine AO.xs rfl rfl rfl (XS.load rfl (on rfl) rfl rfl) ?_
          refine AO.xs rfl rfl rfl (XS.field rfl (fo rfl)) ?_
          refine AO.xs rfl rfl rfl (XS.load rfl (on rfl) rfl rfl) ?_
          refine AO.xs rfl rfl rfl (XS.int rfl rfl rfl) ?_
          refine AO.nil ?_
          refine AW.cond rfl (fun hb5 => ?_) (fun hb5 => ?_)
          · skip
            replace hb5 := bne_iff_ne.1 hb5
            refine AW.seq ?_
            refine AW.region ?_
            refine AO.xs rfl rfl rfl (XS.assign rfl) ?_
            refine AO.nil ?_
            refine AW.ret ?_
            exact ⟨_, rfl, congrArg boolD (eqP_no (fun e => hb5 (by rw [e]))).symm⟩
          · skip
            replace hb5 := bne_eq_false_iff_eq.1 hb5
            refine AW.skip ?_
            refine AW.seq ?_
            refine AW.seq ?_
            refine AW.region ?_
            refine AO.xs rfl rfl rfl (XS.field rfl (fo rfl)) ?_
            refine AO.xs rfl rfl rfl (XS.load rfl (on rfl) rfl rfl) ?_
            refine AO.xs rfl rfl rfl (XS.field rfl (fo rfl)) ?_
            refine AO.xs rfl rfl rfl (XS.load rfl (on rfl) rfl rfl) ?_
            refine AO.xs rfl rfl rfl (XS.call rfl (by kernel_rfl) rfl (eqIntS_c h.1)) ?_
            refine AO.xs rfl rfl rfl (XS.not rfl) ?_
            refine AO.nil ?_
            refine AW.cond rfl (fun hb6 => ?_) (fun hb6 => ?_)
            · skip
              replace hb6 := eqP_false.1 (notT hb6)
              refine AW.seq ?_
              refine AW.region ?_
              refine AO.xs rfl rfl rfl (XS.assign rfl) ?_
              refine AO.nil ?_
              refine AW.ret ?_
              exact ⟨_, rfl, congrArg boolD (eqP_no (fun e => hb6 (by rw [e]))).symm⟩
            · skip
              replace hb6 := eqP_iff.1 (notF hb6)
              refine AW.skip ?_
              refine AW.seq ?_
              refine AW.seq ?_
              refine AW.region ?_
              refine AO.xs rfl rfl rfl (XS.field rfl (fo rfl)) ?_
              refine AO.xs rfl rfl rfl (XS.load rfl (on rfl) rfl rfl) ?_
              refine AO.xs rfl rfl rfl (XS.field rfl (fo rfl)) ?_
              refine AO.xs rfl rfl rfl (XS.load rfl (on rfl) rfl rfl) ?_
              refine AO.xs rfl rfl rfl (XS.call rfl (by kernel_rfl) rfl (eqRowS_c h.2.1 h.2.2)) ?_
              refine AO.xs rfl rfl rfl (XS.not rfl) ?_
              refine AO.nil ?_
              refine AW.cond rfl (fun hb7 => ?_) (fun hb7 => ?_)
              · skip
                replace hb7 := eqP_false.1 (notT hb7)
                refine AW.seq ?_
                refine AW.region ?_
                refine AO.xs rfl rfl rfl (XS.assign rfl) ?_
                refine AO.nil ?_
                refine AW.ret ?_
                exact ⟨_, rfl, congrArg boolD (eqP_no (fun e => hb7 (by rw [e]))).symm⟩
              · skip
                replace hb7 := eqP_iff.1 (notF hb7)
                refine AW.skip ?_
                refine AW.seq ?_
                refine AW.region ?_
                refine AO.xs rfl rfl rfl (XS.assign rfl) ?_
                refine AO.nil ?_
                refine AW.ret ?_
                exact ⟨_, rfl, congrArg boolD (eqP_yes (Sy.ext_iff.2 ⟨hb1, hb2, hb3, hb4, hb5, hb6, hb7⟩)).symm⟩

end Go.Proofs.Ytnepbbhcbehilaa.C
