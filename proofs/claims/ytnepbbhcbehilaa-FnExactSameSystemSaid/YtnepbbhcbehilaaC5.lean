/-
  OWN WORK, printed by wip/tools/gen.py out of the translation and of the contracts in wip/specs.
-/
import Derived.Test.YtnepbbhcbehilaaC4
import Derived.Test.YtnepbbhcbehilaaAvR
namespace Go.Proofs.Ytnepbbhcbehilaa.C
open Go Go.RowKit Go.Proofs.Ytnepbbhcbehilaa.Av Go.Proofs.Ytnepbbhcbehilaa.Ty
set_option linter.unusedVariables false


def combs (p : Rw) : List (List Tm) := [p.a, p.b, p.c]
def combsD (p : Rw) : Dv := .sl ((combs p).map fun l => [tmsD l])
def mxs {α : Type} (f : α → Nat) (l : List α) : Nat := (l.map f).foldl max 0
theorem mxs_succ {α : Type} {f : α → Nat} {l : List α} {i : Nat} (h : i < l.length) : mxs f (l.take (i + 1)) = max (mxs f (l.take i)) (f l[i]) := by
  unfold mxs
  rw [List.take_succ_eq_append_getElem h, List.map_append, List.foldl_append]
  rfl
def gr (r : Rw) : Nat := mxs List.length (combs r)
theorem mxs_le {α : Type} {f : α → Nat} {m : Nat} : ∀ (l : List α) (a : Nat), a ≤ m → (∀ x ∈ l, f x ≤ m) → (l.map f).foldl max a ≤ m
  | [], a, h, _ => h
  | x :: l, a, h, hl => mxs_le l _ (Nat.max_le.2 ⟨h, hl x List.mem_cons_self⟩) (fun y hy => hl y (List.mem_cons_of_mem _ hy))

set_option maxRecDepth 100000 in
theorem combos_c {p : Rw} : AC Try.prog 83 [.ag p.cs] (fun d => d = combsD p) := by
  refine AC.intro Try.func83 Try.ntmps83 Try.results83 rfl (by simp) (fun w0 T => ?_)
  refine AW.seq ?_
  refine AW.region ?_
  refine AO.box rfl rfl rfl rfl ?_
  refine AO.xs rfl rfl rfl (XS.assign rfl) ?_
  refine AO.nil ?_
  refine AW.seq ?_
  refine AW.region ?_
  refine AO.xs rfl rfl rfl (XS.field rfl (fo rfl)) ?_
  refine AO.xs rfl rfl rfl (XS.load rfl (on rfl) rfl rfl) ?_
  refine AO.xs rfl rfl rfl (XS.field rfl (fo rfl)) ?_
  refine AO.xs rfl rfl rfl (XS.load rfl (on rfl) rfl rfl) ?_
  refine AO.xs rfl rfl rfl (XS.field rfl (fo rfl)) ?_
  refine AO.xs rfl rfl rfl (XS.load rfl (on rfl) rfl rfl) ?_
  refine AO.xs rfl rfl rfl (XS.buildSlice (ap rfl) rfl rfl rfl (by decide)) ?_
  refine AO.xs rfl rfl rfl (XS.assign rfl) ?_
  refine AO.nil ?_
  refine AW.ret ?_
  exact ⟨_, rfl, rfl⟩

set_option maxRecDepth 100000 in
theorem termsInI_c {p : Sy} (h : p.sm) : AC Try.prog 37 [.ag p.cs] (fun d => d = intD ((mxs gr p.ro : Nat) : Int)) := by
  refine AC.intro Try.func37 Try.ntmps37 Try.results37 rfl (by simp) (fun w0 T => ?_)
  have hl := h.2.1
  refine AW.seq ?_
  refine AW.region ?_
  refine AO.box rfl rfl rfl rfl ?_
  refine AO.xs rfl rfl rfl (XS.assign rfl) ?_
  refine AO.nil ?_
  refine AW.seq ?_
  refine AW.region ?_
  refine AO.xs rfl rfl rfl (XS.assign rfl) ?_
  refine AO.nil ?_
  refine AW.seq ?_
  refine AW.seq ?_
  refine AW.region ?_
  refine AO.xs rfl rfl rfl (XS.field rfl (fo rfl)) ?_
  refine AO.xs rfl rfl rfl (XS.load rfl (on rfl) rfl rfl) ?_
  refine AO.xs rfl rfl rfl (XS.lenM rfl (el rfl)) ?_
  refine AO.xs rfl rfl rfl (XS.move rfl) ?_
  refine AO.nil ?_
  refine AW.block ?_
  refine AW.loop [2, 9, 10] (fun i => [(3, .d (intD ((mxs gr (p.ro.take i) : Nat) : Int))), (11, .d (intD ((i : Nat) : Int)))]) (fun _ => _) (fun i => i ≤ p.ro.length) (fun i => p.ro.length - i) (0) (Nat.zero_le _) ⟨rfl, rfl, trivial⟩ ⟨⟨_, rfl, rfl⟩, ⟨_, rfl, rfl⟩, ⟨_, rfl, rfl⟩, trivial⟩ rfl ?_
  intro i hi
  refine AW.seq ?_
  refine AW.region ?_
  refine AO.xs rfl rfl rfl (XS.int rfl rfl rfl) ?_
  refine AO.nil ?_
  refine AW.seq ?_
  refine AW.cond rfl (fun hb1 => ?_) (fun hb1 => ?_)
  · skip
    replace hb1 := of_decide_eq_true hb1
    have hi2 : i < p.ro.length := by omega
    refine AW.skip ?_
    refine AW.seq ?_
    refine AW.block ?_
    refine AW.seq ?_
    refine AW.region ?_
    refine AO.xs rfl rfl rfl (XS.indexM rfl rfl (el rfl) (by omega) rfl) ?_
    refine AO.xs rfl rfl rfl (XS.loadEA rfl (ro rfl) (sz rfl) (Nat.le_of_ble_eq_true rfl)) ?_
    refine AO.alloc rfl rfl (ze rfl) ?_
    refine AO.store rfl rfl rfl rfl (sz rfl) rfl rfl rfl rfl ?_
    refine AO.nil ?_
    refine AW.seq ?_
    refine AW.region ?_
    refine AO.xs rfl rfl rfl (XS.loadA rfl (ro rfl) (sz rfl) rfl (Nat.le_of_ble_eq_true rfl)) ?_
    refine AO.xs rfl rfl rfl (XS.call rfl (by kernel_rfl) rfl (combos_c (p := p.ro[i]))) ?_
    refine AO.xs rfl rfl rfl (XS.lenM rfl (el rfl)) ?_
    refine AO.xs rfl rfl rfl (XS.move rfl) ?_
    refine AO.nil ?_
    refine AW.block ?_
    refine AW.loop [2, 5, 9, 10, 11, 12, 13, 14, 15, 16, 17] (fun k => [(3, .d (intD ((max (mxs gr (p.ro.take i)) (mxs List.length ((combs p.ro[i]).take k)) : Nat) : Int))), (18, .d (intD ((k : Nat) : Int)))]) (fun _ => _) (fun k => k ≤ (combs p.ro[i]).length) (fun k => (combs p.ro[i]).length - k) (0) (Nat.zero_le _) ⟨lk_I rfl (by simp [mxs]), rfl, trivial⟩ ⟨⟨_, rfl, rfl⟩, ⟨_, rfl, rfl⟩, ⟨_, rfl, rfl⟩, ⟨_, rfl, rfl⟩, ⟨_, rfl, rfl⟩, ⟨_, rfl, rfl⟩, ⟨_, rfl, rfl⟩, ⟨_, rfl, rfl⟩, ⟨_, rfl, rfl⟩, ⟨_, rfl, rfl⟩, ⟨_, rfl, rfl⟩, trivial⟩ rfl ?_
    intro k hk
    refine AW.seq ?_
    refine AW.region ?_
    refine AO.xs rfl rfl rfl (XS.int rfl rfl rfl) ?_
    refine AO.nil ?_
    refine AW.seq ?_
    refine AW.cond rfl (fun hb2 => ?_) (fun hb2 => ?_)
    · skip
      replace hb2 := of_decide_eq_true hb2
      have hk2 : k < (combs p.ro[i]).length := by omega
      refine AW.skip ?_
      refine AW.seq ?_
      refine AW.block ?_
      refine AW.seq ?_
      refine AW.region ?_
      refine AO.xs rfl rfl rfl (XS.indexM rfl rfl (el rfl) (by omega) rfl) ?_
      refine AO.xs rfl rfl rfl (XS.loadE rfl (on rfl) rfl) ?_
      refine AO.xs rfl rfl rfl (XS.assign rfl) ?_
      refine AO.nil ?_
      refine AW.region ?_
      refine AO.xs rfl rfl rfl (XS.move rfl) ?_
      refine AO.xs rfl rfl rfl (XS.move rfl) ?_
      refine AO.xs rfl rfl rfl (XS.lenM rfl (el rfl)) ?_
      refine AO.xs rfl rfl rfl (XS.max2 rfl rfl) ?_
      refine AO.xs rfl rfl rfl (XS.assign rfl) ?_
      refine AO.nil ?_
      refine AW.region ?_
      refine AO.xs rfl rfl rfl (XS.addI rfl rfl (by have : (combs p.ro[i]).length = 3 := rfl; omega)) ?_
      refine AO.xs rfl rfl rfl (XS.move rfl) ?_
      refine AO.nil ?_
      exact ⟨k + 1, (by omega), (by dsimp only; omega), ⟨lk_I rfl (by rw [mxs_succ hk2]; omega), rfl, trivial⟩, ⟨⟨_, rfl, rfl⟩, ⟨_, rfl, rfl⟩, ⟨_, rfl, rfl⟩, ⟨_, rfl, rfl⟩, ⟨_, rfl, rfl⟩, ⟨_, rfl, rfl⟩, ⟨_, rfl, rfl⟩, ⟨_, rfl, rfl⟩, ⟨_, rfl, rfl⟩, ⟨_, rfl, rfl⟩, ⟨_, rfl, rfl⟩, trivial⟩, rfl⟩
    · skip
      replace hb2 := of_decide_eq_false hb2
      have hkk : k = (combs p.ro[i]).length := by omega
      refine AW.exit ?_
      refine AW.region ?_
      refine AO.trim 1 (by simp) (Nat.zero_le _) ?_
      refine AO.xs rfl rfl rfl (XS.addI rfl rfl (by omega)) ?_
      refine AO.xs rfl rfl rfl (XS.move rfl) ?_
      refine AO.nil ?_
      exact ⟨i + 1, (by omega), (by dsimp only; omega), ⟨lk_I rfl (by rw [mxs_succ hi2, hkk, List.take_length]; rfl), rfl, trivial⟩, ⟨⟨_, rfl, rfl⟩, ⟨_, rfl, rfl⟩, ⟨_, rfl, rfl⟩, trivial⟩, rfl⟩
  · skip
    replace hb1 := of_decide_eq_false hb1
    refine AW.exit ?_
    refine AW.seq ?_
    refine AW.region ?_
    refine AO.xs rfl rfl rfl (XS.move rfl) ?_
    refine AO.xs rfl rfl rfl (XS.assign rfl) ?_
    refine AO.nil ?_
    refine AW.ret ?_
    obtain rfl : i = p.ro.length := by omega
    exact ⟨_, rfl, congrArg (fun l => intD ((mxs gr l : Nat) : Int)) List.take_length⟩

set_option maxRecDepth 100000 in
theorem termsInS_c {p : Sy} (h : p.sm) : AC Try.prog 35 [.ag p.cs] (fun d => d = intD ((mxs gr p.ro : Nat) : Int)) := by
  refine AC.intro Try.func35 Try.ntmps35 Try.results35 rfl (by simp) (fun w0 T => ?_)
  have hl := h.2.1
  refine AW.seq ?_
  refine AW.region ?_
  refine AO.box rfl rfl rfl rfl ?_
  refine AO.xs rfl rfl rfl (XS.assign rfl) ?_
  refine AO.nil ?_
  refine AW.seq ?_
  refine AW.region ?_
  refine AO.xs rfl rfl rfl (XS.assign rfl) ?_
  refine AO.nil ?_
  refine AW.seq ?_
  refine AW.seq ?_
  refine AW.region ?_
  refine AO.xs rfl rfl rfl (XS.assign rfl) ?_
  refine AO.nil ?_
  refine AW.block ?_
  refine AW.loop [1, 2] (fun i => [(3, .d (intD ((mxs gr (p.ro.take i) : Nat) : Int))), (4, .d (intD ((i : Nat) : Int)))]) (fun _ => _) (fun i => i ≤ p.ro.length) (fun i => p.ro.length - i) (0) (Nat.zero_le _) ⟨rfl, rfl, trivial⟩ ⟨⟨_, rfl, rfl⟩, ⟨_, rfl, rfl⟩, trivial⟩ rfl ?_
  intro i hi
  refine AW.seq ?_
  refine AW.seq ?_
  refine AW.region ?_
  refine AO.xs rfl rfl rfl (XS.move rfl) ?_
  refine AO.xs rfl rfl rfl (XS.field rfl (fo rfl)) ?_
  refine AO.xs rfl rfl rfl (XS.load rfl (on rfl) rfl rfl) ?_
  refine AO.xs rfl rfl rfl (XS.lenM rfl (el rfl)) ?_
  refine AO.xs rfl rfl rfl (XS.int rfl rfl rfl) ?_
  refine AO.nil ?_
  refine AW.cond rfl (fun hb1 => ?_) (fun hb1 => ?_)
  · skip
    replace hb1 := of_decide_eq_true hb1
    have hi2 : i < p.ro.length := by omega
    refine AW.skip ?_
    refine AW.seq ?_
    refine AW.block ?_
    refine AW.seq ?_
    refine AW.drawn mix ?_
    refine DC.cons rfl rfl rfl (XS.field rfl (fo rfl)) ?_
    refine DC.cons rfl rfl rfl (XS.load rfl (on rfl) rfl rfl) ?_
    refine DC.cons rfl rfl rfl (XS.move rfl) ?_
    refine DC.cons rfl rfl rfl (XS.indexM rfl rfl (el rfl) (by omega) rfl) ?_
    refine DC.cons rfl rfl rfl (XS.fieldE rfl (fo rfl)) ?_
    refine DC.cons rfl rfl rfl (XS.loadE rfl (on rfl) rfl) ?_
    refine DC.cons rfl rfl rfl (XS.lenM rfl (el rfl)) ?_
    refine DC.cons rfl rfl rfl (XS.field rfl (fo rfl)) ?_
    refine DC.cons rfl rfl rfl (XS.load rfl (on rfl) rfl rfl) ?_
    refine DC.cons rfl rfl rfl (XS.move rfl) ?_
    refine DC.cons rfl rfl rfl (XS.indexM rfl rfl (el rfl) (by omega) rfl) ?_
    refine DC.cons rfl rfl rfl (XS.fieldE rfl (fo rfl)) ?_
    refine DC.cons rfl rfl rfl (XS.loadE rfl (on rfl) rfl) ?_
    refine DC.cons rfl rfl rfl (XS.lenM rfl (el rfl)) ?_
    refine DC.cons rfl rfl rfl (XS.field rfl (fo rfl)) ?_
    refine DC.cons rfl rfl rfl (XS.load rfl (on rfl) rfl rfl) ?_
    refine DC.cons rfl rfl rfl (XS.move rfl) ?_
    refine DC.cons rfl rfl rfl (XS.indexM rfl rfl (el rfl) (by omega) rfl) ?_
    refine DC.cons rfl rfl rfl (XS.fieldE rfl (fo rfl)) ?_
    refine DC.cons rfl rfl rfl (XS.loadE rfl (on rfl) rfl) ?_
    refine DC.cons rfl rfl rfl (XS.lenM rfl (el rfl)) ?_
    refine DC.cons rfl rfl rfl (XS.toD (XS.buildSlice (ap rfl) rfl rfl rfl (by decide)) (show _ = intsD ((combs p.ro[i]).map fun l => (l.length : Int)) from rfl)) ?_
    refine DC.cons rfl rfl rfl (XS.assign rfl) ?_
    refine DC.done (by kernel_rfl) ?_
    refine AO.nil ?_
    refine AW.seq ?_
    refine AW.region ?_
    refine AO.xs rfl rfl rfl (XS.assign rfl) ?_
    refine AO.nil ?_
    refine AW.block ?_
    refine AW.loop [1, 2, 4, 5, 7, 8, 9, 10, 11, 14, 15, 16, 17, 18, 19, 20, 21, 22, 23, 24, 25, 26, 27, 28, 29, 30, 31, 32, 33, 34, 35] (fun k => [(3, .d (intD ((max (mxs gr (p.ro.take i)) (mxs List.length ((combs p.ro[i]).take k)) : Nat) : Int))), (6, .d (intD ((k : Nat) : Int)))]) (fun _ => _) (fun k => k ≤ (combs p.ro[i]).length) (fun k => (combs p.ro[i]).length - k) (0) (Nat.zero_le _) ⟨lk_I rfl (by simp [mxs]), rfl, trivial⟩ ⟨⟨_, rfl, rfl⟩, ⟨_, rfl, rfl⟩, ⟨_, rfl, rfl⟩, ⟨_, rfl, rfl⟩, ⟨_, rfl, rfl⟩, ⟨_, rfl, rfl⟩, ⟨_, rfl, rfl⟩, ⟨_, rfl, rfl⟩, ⟨_, rfl, rfl⟩, ⟨_, rfl, rfl⟩, ⟨_, rfl, rfl⟩, ⟨_, rfl, rfl⟩, ⟨_, rfl, rfl⟩, ⟨_, rfl, rfl⟩, ⟨_, rfl, rfl⟩, ⟨_, rfl, rfl⟩, ⟨_, rfl, rfl⟩, ⟨_, rfl, rfl⟩, ⟨_, rfl, rfl⟩, ⟨_, rfl, rfl⟩, ⟨_, rfl, rfl⟩, ⟨_, rfl, rfl⟩, ⟨_, rfl, rfl⟩, ⟨_, rfl, rfl⟩, ⟨_, rfl, rfl⟩, ⟨_, rfl, rfl⟩, ⟨_, rfl, rfl⟩, ⟨_, rfl, rfl⟩, ⟨_, rfl, rfl⟩, ⟨_, rfl, rfl⟩, ⟨_, rfl, rfl⟩, trivial⟩ rfl ?_
    intro k hk
    refine AW.seq ?_
    refine AW.seq ?_
    refine AW.region ?_
    refine AO.xs rfl rfl rfl (XS.move rfl) ?_
    refine AO.xs rfl rfl rfl (XS.int rfl rfl rfl) ?_
    refine AO.nil ?_
    refine AW.cond rfl (fun hb2 => ?_) (fun hb2 => ?_)
    · skip
      replace hb2 := of_decide_eq_true hb2
      have hk2 : k < (combs p.ro[i]).length := by have : (combs p.ro[i]).length = 3 := rfl; omega
      refine AW.skip ?_
      refine AW.seq ?_
      refine AW.block ?_
      refine AW.seq ?_
      refine AW.region ?_
      refine AO.xs rfl rfl rfl (XS.move rfl) ?_
      refine AO.xs rfl rfl rfl (XS.move rfl) ?_
      refine AO.xs rfl rfl rfl (XS.indexM rfl rfl (el rfl) (by simpa using hk2) rfl) ?_
      refine AO.xs rfl rfl rfl (XS.loadE rfl (on rfl) rfl) ?_
      refine AO.xs rfl rfl rfl (XS.move rfl) ?_
      refine AO.xs rfl rfl rfl (XS.int rfl rfl rfl) ?_
      refine AO.nil ?_
      refine AW.cond rfl (fun hb3 => ?_) (fun hb3 => ?_)
      · skip
        replace hb3 := of_decide_eq_true hb3
        simp only [List.getElem_map] at hb3
        refine AW.region ?_
        refine AO.xs rfl rfl rfl (XS.move rfl) ?_
        refine AO.xs rfl rfl rfl (XS.move rfl) ?_
        refine AO.xs rfl rfl rfl (XS.indexM rfl rfl (el rfl) (by simpa using hk2) rfl) ?_
        refine AO.xs rfl rfl rfl (XS.loadE rfl (on rfl) rfl) ?_
        refine AO.xs rfl rfl rfl (XS.assign rfl) ?_
        refine AO.nil ?_
        refine AW.region ?_
        refine AO.xs rfl rfl rfl (XS.move rfl) ?_
        refine AO.xs rfl rfl rfl (XS.addI rfl rfl (by have : (combs p.ro[i]).length = 3 := rfl; omega)) ?_
        refine AO.xs rfl rfl rfl (XS.assign rfl) ?_
        refine AO.nil ?_
        exact ⟨k + 1, (by omega), (by dsimp only; omega), ⟨lk_I rfl (by rw [mxs_succ hk2]; first | omega | (simp only [List.getElem_map] at *; omega)), rfl, trivial⟩, ⟨⟨_, rfl, rfl⟩, ⟨_, rfl, rfl⟩, ⟨_, rfl, rfl⟩, ⟨_, rfl, rfl⟩, ⟨_, rfl, rfl⟩, ⟨_, rfl, rfl⟩, ⟨_, rfl, rfl⟩, ⟨_, rfl, rfl⟩, ⟨_, rfl, rfl⟩, ⟨_, rfl, rfl⟩, ⟨_, rfl, rfl⟩, ⟨_, rfl, rfl⟩, ⟨_, rfl, rfl⟩, ⟨_, rfl, rfl⟩, ⟨_, rfl, rfl⟩, ⟨_, rfl, rfl⟩, ⟨_, rfl, rfl⟩, ⟨_, rfl, rfl⟩, ⟨_, rfl, rfl⟩, ⟨_, rfl, rfl⟩, ⟨_, rfl, rfl⟩, ⟨_, rfl, rfl⟩, ⟨_, rfl, rfl⟩, ⟨_, rfl, rfl⟩, ⟨_, rfl, rfl⟩, ⟨_, rfl, rfl⟩, ⟨_, rfl, rfl⟩, ⟨_, rfl, rfl⟩, ⟨_, rfl, rfl⟩, ⟨_, rfl, rfl⟩, ⟨_, rfl, rfl⟩, trivial⟩, rfl⟩
      · skip
        replace hb3 := of_decide_eq_false hb3
        simp only [List.getElem_map] at hb3
        refine AW.skip ?_
        refine AW.region ?_
        refine AO.xs rfl rfl rfl (XS.move rfl) ?_
        refine AO.xs rfl rfl rfl (XS.addI rfl rfl (by have : (combs p.ro[i]).length = 3 := rfl; omega)) ?_
        refine AO.xs rfl rfl rfl (XS.assign rfl) ?_
        refine AO.nil ?_
        exact ⟨k + 1, (by omega), (by dsimp only; omega), ⟨lk_I rfl (by rw [mxs_succ hk2]; first | omega | (simp only [List.getElem_map] at *; omega)), rfl, trivial⟩, ⟨⟨_, rfl, rfl⟩, ⟨_, rfl, rfl⟩, ⟨_, rfl, rfl⟩, ⟨_, rfl, rfl⟩, ⟨_, rfl, rfl⟩, ⟨_, rfl, rfl⟩, ⟨_, rfl, rfl⟩, ⟨_, rfl, rfl⟩, ⟨_, rfl, rfl⟩, ⟨_, rfl, rfl⟩, ⟨_, rfl, rfl⟩, ⟨_, rfl, rfl⟩, ⟨_, rfl, rfl⟩, ⟨_, rfl, rfl⟩, ⟨_, rfl, rfl⟩, ⟨_, rfl, rfl⟩, ⟨_, rfl, rfl⟩, ⟨_, rfl, rfl⟩, ⟨_, rfl, rfl⟩, ⟨_, rfl, rfl⟩, ⟨_, rfl, rfl⟩, ⟨_, rfl, rfl⟩, ⟨_, rfl, rfl⟩, ⟨_, rfl, rfl⟩, ⟨_, rfl, rfl⟩, ⟨_, rfl, rfl⟩, ⟨_, rfl, rfl⟩, ⟨_, rfl, rfl⟩, ⟨_, rfl, rfl⟩, ⟨_, rfl, rfl⟩, ⟨_, rfl, rfl⟩, trivial⟩, rfl⟩
    · skip
      replace hb2 := of_decide_eq_false hb2
      have hkk : k = (combs p.ro[i]).length := by have : (combs p.ro[i]).length = 3 := rfl; omega
      refine AW.exit ?_
      refine AW.region ?_
      refine AO.xs rfl rfl rfl (XS.move rfl) ?_
      refine AO.xs rfl rfl rfl (XS.addI rfl rfl (by omega)) ?_
      refine AO.xs rfl rfl rfl (XS.assign rfl) ?_
      refine AO.nil ?_
      exact ⟨i + 1, (by omega), (by dsimp only; omega), ⟨lk_I rfl (by rw [mxs_succ hi2, hkk, List.take_length]; rfl), rfl, trivial⟩, ⟨⟨_, rfl, rfl⟩, ⟨_, rfl, rfl⟩, trivial⟩, rfl⟩
  · skip
    replace hb1 := of_decide_eq_false hb1
    refine AW.exit ?_
    refine AW.seq ?_
    refine AW.region ?_
    refine AO.xs rfl rfl rfl (XS.move rfl) ?_
    refine AO.xs rfl rfl rfl (XS.assign rfl) ?_
    refine AO.nil ?_
    refine AW.ret ?_
    obtain rfl : i = p.ro.length := by omega
    exact ⟨_, rfl, congrArg (fun l => intD ((mxs gr l : Nat) : Int)) List.take_length⟩

set_option maxRecDepth 100000 in
theorem fnTermsIn_c {p : Sy} (hp : p.ok) : AC Try.prog 8 [.ag p.cs] (fun d => d = .im (.bool true)) := by
  refine AC.intro Try.func8 Try.ntmps8 Try.results8 rfl (by simp) (fun w0 T => ?_)
  refine AW.seq ?_
  refine AW.region ?_
  refine AO.box rfl rfl rfl rfl ?_
  refine AO.xs rfl rfl rfl (XS.assign rfl) ?_
  refine AO.nil ?_
  refine AW.seq ?_
  refine AW.region ?_
  refine AO.xs rfl rfl rfl (XS.assign rfl) ?_
  refine AO.nil ?_
  refine AW.seq ?_
  refine AW.region ?_
  refine AO.xs rfl rfl rfl (XS.loadA rfl (ro rfl) (sz rfl) rfl (Nat.le_of_ble_eq_true rfl)) ?_
  refine AO.xs rfl rfl rfl (XS.move rfl) ?_
  refine AO.xs rfl rfl rfl (XS.call rfl (by kernel_rfl) rfl (szSystem_c (by omega) hp)) ?_
  refine AO.xs rfl rfl rfl (XS.assign rfl) ?_
  refine AO.nil ?_
  refine AW.seq ?_
  refine AW.seq ?_
  refine AW.region ?_
  refine AO.xs rfl rfl rfl (XS.move rfl) ?_
  refine AO.xs rfl rfl rfl (XS.int rfl rfl rfl) ?_
  refine AO.nil ?_
  refine AW.cond rfl (fun hb1 => ?_) (fun hb1 => ?_)
  · skip
    replace hb1 := of_decide_eq_true hb1
    refine AW.seq ?_
    refine AW.region ?_
    refine AO.xs rfl rfl rfl (XS.assign rfl) ?_
    refine AO.nil ?_
    refine AW.ret ?_
    exact ⟨_, rfl, rfl⟩
  · skip
    replace hb1 := of_decide_eq_false hb1
    have k1 := left_ge hb1
    have hs := Sy.sm_of (show p.n ≤ 1048576 by omega)
    refine AW.skip ?_
    refine AW.seq ?_
    refine AW.region ?_
    refine AO.xs rfl rfl rfl (XS.loadA rfl (ro rfl) (sz rfl) rfl (Nat.le_of_ble_eq_true rfl)) ?_
    refine AO.xs rfl rfl rfl (XS.call rfl (by kernel_rfl) rfl (toSystem_c hs)) ?_
    refine AO.xs rfl rfl rfl (XS.call rfl (by kernel_rfl) rfl (termsInS_c hs)) ?_
    refine AO.xs rfl rfl rfl (XS.assign rfl) ?_
    refine AO.nil ?_
    refine AW.seq ?_
    refine AW.region ?_
    refine AO.xs rfl rfl rfl (XS.loadA rfl (ro rfl) (sz rfl) rfl (Nat.le_of_ble_eq_true rfl)) ?_
    refine AO.xs rfl rfl rfl (XS.call rfl (by kernel_rfl) rfl (toSystem_c hs)) ?_
    refine AO.alloc rfl rfl (ze rfl) ?_
    refine AO.store rfl rfl rfl rfl (sz rfl) rfl rfl rfl rfl ?_
    refine AO.nil ?_
    refine AW.seq ?_
    refine AW.region ?_
    refine AO.xs rfl rfl rfl (XS.loadA rfl (ro rfl) (sz rfl) rfl (Nat.le_of_ble_eq_true rfl)) ?_
    refine AO.xs rfl rfl rfl (XS.call rfl (by kernel_rfl) rfl (termsInI_c hs)) ?_
    refine AO.xs rfl rfl rfl (XS.assign rfl) ?_
    refine AO.nil ?_
    refine AW.seq ?_
    refine AW.seq ?_
    refine AW.region ?_
    refine AO.xs rfl rfl rfl (XS.move rfl) ?_
    refine AO.xs rfl rfl rfl (XS.move rfl) ?_
    refine AO.xs rfl rfl rfl (XS.int rfl rfl rfl) ?_
    refine AO.nil ?_
    refine AW.cond rfl (fun hb2 => ?_) (fun hb2 => ?_)
    · skip
      replace hb2 := bne_iff_ne.1 hb2
      exact absurd rfl hb2
    · skip
      replace hb2 := bne_eq_false_iff_eq.1 hb2
      refine AW.skip ?_
      refine AW.seq ?_
      refine AW.seq ?_
      refine AW.drawn mix ?_
      refine DC.cons rfl rfl rfl (XS.loadA rfl (ro rfl) (sz rfl) rfl (Nat.le_of_ble_eq_true rfl)) ?_
      refine DC.cons rfl rfl rfl (XS.loadA rfl (ro rfl) (sz rfl) rfl (Nat.le_of_ble_eq_true rfl)) ?_
      refine DC.cons rfl rfl rfl (XS.call rfl (by kernel_rfl) rfl (toSystem_c hs)) ?_
      refine DC.cons rfl rfl rfl (XS.call rfl (by kernel_rfl) rfl (eqSystem_c hs)) ?_
      refine DC.cons rfl rfl rfl (XS.not rfl) ?_
      refine DC.done (by kernel_rfl) ?_
      refine AO.nil ?_
      refine AW.cond rfl (fun hb3 => ?_) (fun hb3 => ?_)
      · skip
        replace hb3 := eqP_false.1 (notT hb3)
        exact absurd rfl hb3
      · skip
        replace hb3 := eqP_iff.1 (notF hb3)
        refine AW.skip ?_
        refine AW.seq ?_
        refine AW.region ?_
        refine AO.xs rfl rfl rfl (XS.assign rfl) ?_
        refine AO.nil ?_
        refine AW.ret ?_
        exact ⟨_, rfl, rfl⟩


theorem ok_ints {d : Dv} (h : Ok (.sl [.int .i64]) d) : ∃ l : List Int, d = intsD l ∧ l.length ≤ maxLen ∧ ∀ n ∈ l, i64ok n :=
  ok_sl (f := fun n => [intD n]) (P := i64ok) h (fun x hx => by
    obtain ⟨d1, e1, rfl, h1, k1⟩ := oks_cons hx
    obtain rfl := oks_nil k1
    obtain ⟨n, rfl, hn⟩ := ok_i64 h1
    exact ⟨n, rfl, hn⟩)
theorem ok_tms {d : Dv} (h : Ok (.sl [.int .i64, .str]) d) : ∃ l : List Tm, d = tmsD l ∧ l.length ≤ maxLen ∧ ∀ t ∈ l, t.ok :=
  ok_sl (f := Tm.cs) (P := Tm.ok) h (fun x hx => by
    obtain ⟨d1, e1, rfl, h1, k1⟩ := oks_cons hx
    obtain ⟨d2, e2, rfl, h2, k2⟩ := oks_cons k1
    obtain rfl := oks_nil k2
    obtain ⟨n, rfl, hn⟩ := ok_i64 h1
    obtain ⟨u, rfl, hu⟩ := ok_str h2
    exact ⟨⟨n, u⟩, rfl, hn, hu⟩)
theorem ok_rows {d : Dv} (h : Ok (.sl [.sl [.int .i64, .str], .sl [.int .i64, .str], .sl [.int .i64, .str]]) d) : ∃ l : List Rw, d = rowsD l ∧ l.length ≤ maxLen ∧ ∀ r ∈ l, r.ok :=
  ok_sl (f := Rw.cs) (P := Rw.ok) h (fun x hx => by
    obtain ⟨d1, e1, rfl, h1, k1⟩ := oks_cons hx
    obtain ⟨d2, e2, rfl, h2, k2⟩ := oks_cons k1
    obtain ⟨d3, e3, rfl, h3, k3⟩ := oks_cons k2
    obtain rfl := oks_nil k3
    obtain ⟨a, rfl, ha⟩ := ok_tms h1
    obtain ⟨b, rfl, hb⟩ := ok_tms h2
    obtain ⟨c, rfl, hc⟩ := ok_tms h3
    exact ⟨⟨a, b, c⟩, rfl, ha, hb, hc⟩)

end Go.Proofs.Ytnepbbhcbehilaa.C
