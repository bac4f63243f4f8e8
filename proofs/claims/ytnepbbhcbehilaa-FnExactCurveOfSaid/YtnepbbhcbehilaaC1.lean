/-
  OWN WORK, printed by wip/tools/gen.py out of the translation and of the contracts in wip/specs.
-/
import Derived.Test.YtnepbbhcbehilaaTy
import Derived.Test.YtnepbbhcbehilaaProg
namespace Go.Proofs.Ytnepbbhcbehilaa.C
open Go Go.RowKit Go.Proofs.Ytnepbbhcbehilaa.Av Go.Proofs.Ytnepbbhcbehilaa.Ty
set_option linter.unusedVariables false


def strD (s : ByteArray) : Dv := .im (.string s)
def strsD (ss : List ByteArray) : Dv := .sl (ss.map fun s => [strD s])
def intD (n : Int) : Dv := .im (.int .i64 n)
def boolD (b : Bool) : Dv := .im (.bool b)

def fillTo {α : Type} (f : α → Dv) (z : Dv) (xs : List α) (i : Nat) : List Dv := (xs.take i).map f ++ List.replicate (xs.length - i) z
theorem fill_len {α : Type} {f : α → Dv} {z : Dv} {xs : List α} {i : Nat} (h : i ≤ xs.length) : (fillTo f z xs i).length = xs.length := by
  simp [fillTo]; omega
theorem fill_zero {α : Type} (f : α → Dv) (z : Dv) (xs : List α) : fillTo f z xs 0 = List.replicate xs.length z := by simp [fillTo]
theorem fill_all {α : Type} (f : α → Dv) (z : Dv) (xs : List α) : fillTo f z xs xs.length = xs.map f := by simp [fillTo]
theorem fill_set {α : Type} {f : α → Dv} {z : Dv} {xs : List α} {i : Nat} (h : i < xs.length) : (fillTo f z xs i).set i (f xs[i]) = fillTo f z xs (i + 1) := by
  unfold fillTo
  have e : xs.length - i = (xs.length - (i + 1)) + 1 := by omega
  have hl : ((xs.take i).map f).length = i := by simp; omega
  rw [List.set_append_right _ _ (by omega), hl, Nat.sub_self, e, List.replicate_succ, List.set_cons_zero, List.take_succ_eq_append_getElem h, List.map_append, List.append_assoc]
  rfl
def szs (ss : List ByteArray) : Nat := (ss.map (·.size)).sum
theorem szs_succ {ss : List ByteArray} {i : Nat} (h : i < ss.length) : szs (ss.take (i + 1)) = szs (ss.take i) + ss[i].size := by
  unfold szs
  rw [List.take_succ_eq_append_getElem h, List.map_append, List.sum_append]
  simp
theorem szs_le (ss : List ByteArray) (i : Nat) : szs (ss.take i) ≤ szs ss := by
  conv => rhs; rw [← List.take_append_drop i ss]
  unfold szs
  rw [List.map_append, List.sum_append]
  omega
/-- What a slice of strings costs. -/
def costS (ss : List ByteArray) : Nat := ss.length + szs ss
def left (l : Int) (n : Nat) : Int := if l < n then -1 else l - n

set_option maxRecDepth 100000 in
theorem toStringS_c {xs : List ByteArray} (h : xs.length ≤ 1048576) : AC Try.prog 60 [strsD xs] (fun d => d = strsD xs) := by
  refine AC.intro Try.func60 Try.ntmps60 Try.results60 rfl (by simp) (fun w0 T => ?_)
  refine AW.seq ?_
  refine AW.region ?_
  refine AO.xs rfl rfl rfl (XS.assign rfl) ?_
  refine AO.nil ?_
  refine AW.seq ?_
  refine AW.region ?_
  refine AO.xs rfl rfl rfl (XS.move rfl) ?_
  refine AO.xs rfl rfl rfl (XS.lenM rfl (el rfl)) ?_
  refine AO.make1 rfl rfl rfl rfl (ap rfl) (by omega) (by omega) (by omega) ?_
  refine AO.xs rfl rfl rfl (XS.assign rfl) ?_
  refine AO.nil ?_
  refine AW.seq ?_
  refine AW.seq ?_
  refine AW.region ?_
  refine AO.xs rfl rfl rfl (XS.assign rfl) ?_
  refine AO.nil ?_
  refine AW.block ?_
  refine AW.loop [0, 2, 3] (fun i => [(4, .d (intD ((i : Nat) : Int)))]) (fun i => [fillTo strD (.im (.string ⟨#[]⟩)) xs i]) (fun i => i ≤ xs.length) (fun i => xs.length - i) (0) (Nat.zero_le _) ⟨rfl, trivial⟩ ⟨⟨_, rfl, rfl⟩, ⟨_, rfl, rfl⟩, ⟨_, rfl, rfl⟩, trivial⟩ (congrArg (fun z => [z]) (fill_zero _ _ _).symm) ?_
  intro i hi
  refine AW.seq ?_
  refine AW.seq ?_
  refine AW.region ?_
  refine AO.xs rfl rfl rfl (XS.move rfl) ?_
  refine AO.xs rfl rfl rfl (XS.move rfl) ?_
  refine AO.xs rfl rfl rfl (XS.lenM rfl (el rfl)) ?_
  refine AO.xs rfl rfl rfl (XS.int rfl rfl rfl) ?_
  refine AO.nil ?_
  refine AW.cond rfl (fun hb1 => ?_) (fun hb1 => ?_)
  · skip
    replace hb1 := of_decide_eq_true hb1
    refine AW.skip ?_
    refine AW.seq ?_
    refine AW.block ?_
    refine AW.region ?_
    refine AO.xs rfl rfl rfl (XS.move rfl) ?_
    refine AO.xs rfl rfl rfl (XS.move rfl) ?_
    refine AO.xs rfl rfl rfl (XS.move rfl) ?_
    refine AO.xs rfl rfl rfl (XS.move rfl) ?_
    refine AO.xs rfl rfl rfl (XS.indexM rfl rfl (el rfl) (by omega) rfl) ?_
    refine AO.xs rfl rfl rfl (XS.loadE rfl (on rfl) rfl) ?_
    refine AO.xs rfl rfl rfl (XS.indexR1 rfl rfl (el rfl) (by omega)) ?_
    refine AO.store1 rfl rfl rfl rfl (sz rfl) rfl (by rw [fill_len hi]; omega) rfl ?_
    refine AO.nil ?_
    refine AW.region ?_
    refine AO.xs rfl rfl rfl (XS.move rfl) ?_
    refine AO.xs rfl rfl rfl (XS.addI rfl rfl (by omega)) ?_
    refine AO.xs rfl rfl rfl (XS.assign rfl) ?_
    refine AO.nil ?_
    exact ⟨i + 1, (by omega), (by dsimp only; omega), ⟨rfl, trivial⟩, ⟨⟨_, rfl, rfl⟩, ⟨_, rfl, rfl⟩, ⟨_, rfl, rfl⟩, trivial⟩, (congrArg (fun z => [z]) (fill_set (by omega)))⟩
  · skip
    replace hb1 := of_decide_eq_false hb1
    refine AW.exit ?_
    refine AW.seq ?_
    obtain rfl : i = xs.length := by omega
    refine AW.setH (congrArg (fun z => [z]) (fill_all _ _ _)) ?_
    refine AW.region ?_
    refine AO.xs rfl rfl rfl (XS.move rfl) ?_
    refine AO.xs rfl rfl rfl (XS.assign rfl) ?_
    refine AO.nil ?_
    refine AW.freeze1 2 rfl (Nat.zero_le _) rfl (by simp) ?_
    refine AW.ret ?_
    exact ⟨_, rfl, rfl⟩


theorem left_neg {l : Int} {n : Nat} (h : left l n < 0) : left l n = -1 := by unfold left at *; split <;> omega
theorem left_ge {l : Int} {n : Nat} (h : ¬ left l n < 0) : (n : Int) ≤ l ∧ left l n = l - n := by unfold left at *; split at h <;> split <;> omega

set_option maxRecDepth 100000 in
theorem szStringS_c {xs : List ByteArray} {l : Int} (hl : 0 ≤ l ∧ l ≤ 1048576) (hn : xs.length ≤ maxLen) (hz : ∀ s ∈ xs, s.size ≤ maxLen) : AC Try.prog 59 [strsD xs, intD l] (fun d => d = intD (left l (costS xs))) := by
  refine AC.intro Try.func59 Try.ntmps59 Try.results59 rfl (by simp) (fun w0 T => ?_)
  simp only [maxLen] at hn hz
  refine AW.seq ?_
  refine AW.region ?_
  refine AO.xs rfl rfl rfl (XS.assign rfl) ?_
  refine AO.nil ?_
  refine AW.seq ?_
  refine AW.region ?_
  refine AO.xs rfl rfl rfl (XS.move rfl) ?_
  refine AO.xs rfl rfl rfl (XS.move rfl) ?_
  refine AO.xs rfl rfl rfl (XS.lenM rfl (el rfl)) ?_
  refine AO.xs rfl rfl rfl (XS.subI rfl rfl (by omega)) ?_
  refine AO.xs rfl rfl rfl (XS.assign rfl) ?_
  refine AO.nil ?_
  refine AW.seq ?_
  refine AW.seq ?_
  refine AW.region ?_
  refine AO.xs rfl rfl rfl (XS.move rfl) ?_
  refine AO.xs rfl rfl rfl (XS.int rfl rfl rfl) ?_
  refine AO.nil ?_
  refine AW.cond rfl (fun hb1 => ?_) (fun hb1 => ?_)
  · skip
    replace hb1 := of_decide_eq_true hb1
    refine AW.seq ?_
    refine AW.region ?_
    refine AO.xs rfl rfl rfl (XS.assign rfl) ?_
    refine AO.nil ?_
    refine AW.ret ?_
    exact ⟨_, rfl, congrArg intD (show (-1 : Int) = _ by unfold left costS; rw [if_pos (by omega)])⟩
  · skip
    replace hb1 := of_decide_eq_false hb1
    refine AW.skip ?_
    refine AW.seq ?_
    refine AW.seq ?_
    refine AW.region ?_
    refine AO.xs rfl rfl rfl (XS.assign rfl) ?_
    refine AO.nil ?_
    refine AW.block ?_
    refine AW.loop [0] (fun i => [(1, .d (intD (l - xs.length - szs (xs.take i)))), (5, .d (intD ((i : Nat) : Int)))]) (fun _ => _) (fun i => i ≤ xs.length ∧ 0 ≤ l - xs.length - szs (xs.take i)) (fun i => xs.length - i) (0) ⟨Nat.zero_le _, by simp [szs]; omega⟩ ⟨lk_I rfl (by simp [szs]), rfl, trivial⟩ ⟨⟨_, rfl, rfl⟩, trivial⟩ rfl ?_
    intro i ⟨hi, hk⟩
    refine AW.seq ?_
    refine AW.seq ?_
    refine AW.region ?_
    refine AO.xs rfl rfl rfl (XS.move rfl) ?_
    refine AO.xs rfl rfl rfl (XS.move rfl) ?_
    refine AO.xs rfl rfl rfl (XS.lenM rfl (el rfl)) ?_
    refine AO.xs rfl rfl rfl (XS.int rfl rfl rfl) ?_
    refine AO.nil ?_
    refine AW.cond rfl (fun hb2 => ?_) (fun hb2 => ?_)
    · skip
      replace hb2 := of_decide_eq_true hb2
      refine AW.skip ?_
      refine AW.seq ?_
      refine AW.block ?_
      refine AW.seq ?_
      refine AW.region ?_
      refine AO.xs rfl rfl rfl (XS.move rfl) ?_
      refine AO.xs rfl rfl rfl (XS.move rfl) ?_
      refine AO.xs rfl rfl rfl (XS.move rfl) ?_
      refine AO.xs rfl rfl rfl (XS.indexM rfl rfl (el rfl) (by omega) rfl) ?_
      refine AO.xs rfl rfl rfl (XS.loadE rfl (on rfl) rfl) ?_
      refine AO.xs rfl rfl rfl (XS.lenStr rfl (st rfl)) ?_
      have hzi := hz _ (List.getElem_mem (show i < xs.length by omega))
      refine AO.xs rfl rfl rfl (XS.subI rfl rfl (by omega)) ?_
      refine AO.xs rfl rfl rfl (XS.assign rfl) ?_
      refine AO.nil ?_
      refine AW.seq ?_
      refine AW.region ?_
      refine AO.xs rfl rfl rfl (XS.move rfl) ?_
      refine AO.xs rfl rfl rfl (XS.int rfl rfl rfl) ?_
      refine AO.nil ?_
      refine AW.cond rfl (fun hb3 => ?_) (fun hb3 => ?_)
      · skip
        replace hb3 := of_decide_eq_true hb3
        refine AW.seq ?_
        refine AW.region ?_
        refine AO.xs rfl rfl rfl (XS.assign rfl) ?_
        refine AO.nil ?_
        refine AW.ret ?_
        exact ⟨_, rfl, congrArg intD (show (-1 : Int) = _ by have h1 := szs_succ (show i < xs.length by omega); have h2 := szs_le xs (i + 1); unfold left costS; rw [if_pos (by omega)])⟩
      · skip
        replace hb3 := of_decide_eq_false hb3
        refine AW.skip ?_
        refine AW.region ?_
        refine AO.xs rfl rfl rfl (XS.move rfl) ?_
        refine AO.xs rfl rfl rfl (XS.addI rfl rfl (by omega)) ?_
        refine AO.xs rfl rfl rfl (XS.assign rfl) ?_
        refine AO.nil ?_
        exact ⟨i + 1, ⟨by omega, by rw [szs_succ (by omega)]; omega⟩, (by dsimp only; omega), ⟨lk_I rfl (by rw [szs_succ (by omega)]; omega), rfl, trivial⟩, ⟨⟨_, rfl, rfl⟩, trivial⟩, rfl⟩
    · skip
      replace hb2 := of_decide_eq_false hb2
      refine AW.exit ?_
      refine AW.seq ?_
      refine AW.region ?_
      refine AO.xs rfl rfl rfl (XS.move rfl) ?_
      refine AO.xs rfl rfl rfl (XS.assign rfl) ?_
      refine AO.nil ?_
      refine AW.ret ?_
      obtain rfl : i = xs.length := by omega
      exact ⟨_, rfl, congrArg intD (show l - xs.length - szs (xs.take xs.length) = _ by rw [List.take_length] at *; unfold left costS; rw [if_neg (by omega)]; omega)⟩

set_option maxRecDepth 100000 in
theorem eqStringS_c {xs ys : List ByteArray} (hx : xs.length ≤ 1048576) : AC Try.prog 62 [strsD xs, strsD ys] (fun d => d = boolD (eqP (xs = ys))) := by
  refine AC.intro Try.func62 Try.ntmps62 Try.results62 rfl (by simp) (fun w0 T => ?_)
  refine AW.seq ?_
  refine AW.region ?_
  refine AO.xs rfl rfl rfl (XS.assign rfl) ?_
  refine AO.nil ?_
  refine AW.seq ?_
  refine AW.seq ?_
  refine AW.region ?_
  refine AO.xs rfl rfl rfl (XS.move rfl) ?_
  refine AO.xs rfl rfl rfl (XS.lenM rfl (el rfl)) ?_
  refine AO.xs rfl rfl rfl (XS.move rfl) ?_
  refine AO.xs rfl rfl rfl (XS.lenM rfl (el rfl)) ?_
  refine AO.xs rfl rfl rfl (XS.int rfl rfl rfl) ?_
  refine AO.nil ?_
  refine AW.cond rfl (fun hb1 => ?_) (fun hb1 => ?_)
  · skip
    replace hb1 := bne_iff_ne.1 hb1
    refine AW.seq ?_
    refine AW.region ?_
    refine AO.xs rfl rfl rfl (XS.assign rfl) ?_
    refine AO.nil ?_
    refine AW.ret ?_
    exact ⟨_, rfl, congrArg boolD (eqP_no (fun e => hb1 (by rw [e]))).symm⟩
  · skip
    replace hb1 := bne_eq_false_iff_eq.1 hb1
    refine AW.skip ?_
    refine AW.seq ?_
    refine AW.seq ?_
    refine AW.region ?_
    refine AO.xs rfl rfl rfl (XS.assign rfl) ?_
    refine AO.nil ?_
    refine AW.block ?_
    refine AW.loop [0, 1] (fun i => [(5, .d (intD ((i : Nat) : Int)))]) (fun _ => _) (fun i => i ≤ xs.length ∧ xs.take i = ys.take i) (fun i => xs.length - i) (0) ⟨Nat.zero_le _, by simp⟩ ⟨rfl, trivial⟩ ⟨⟨_, rfl, rfl⟩, ⟨_, rfl, rfl⟩, trivial⟩ rfl ?_
    intro i ⟨hi, hk⟩
    refine AW.seq ?_
    refine AW.seq ?_
    refine AW.region ?_
    refine AO.xs rfl rfl rfl (XS.move rfl) ?_
    refine AO.xs rfl rfl rfl (XS.move rfl) ?_
    refine AO.xs rfl rfl rfl (XS.lenM rfl (el rfl)) ?_
    refine AO.xs rfl rfl rfl (XS.int rfl rfl rfl) ?_
    refine AO.nil ?_
    refine AW.cond rfl (fun hb2 => ?_) (fun hb2 => ?_)
    · skip
      replace hb2 := of_decide_eq_true hb2
      refine AW.skip ?_
      refine AW.seq ?_
      refine AW.block ?_
      refine AW.seq ?_
      refine AW.drawn mix ?_
      refine DC.cons rfl rfl rfl (XS.move rfl) ?_
      refine DC.cons rfl rfl rfl (XS.move rfl) ?_
      refine DC.cons rfl rfl rfl (XS.indexM rfl rfl (el rfl) (by omega) rfl) ?_
      refine DC.cons rfl rfl rfl (XS.loadE rfl (on rfl) rfl) ?_
      refine DC.cons rfl rfl rfl (XS.move rfl) ?_
      refine DC.cons rfl rfl rfl (XS.move rfl) ?_
      refine DC.cons rfl rfl rfl (XS.indexM rfl rfl (el rfl) (by omega) rfl) ?_
      refine DC.cons rfl rfl rfl (XS.loadE rfl (on rfl) rfl) ?_
      refine DC.cons rfl rfl rfl (XS.strNe rfl rfl) ?_
      refine DC.done (by kernel_rfl) ?_
      refine AO.nil ?_
      refine AW.cond rfl (fun hb3 => ?_) (fun hb3 => ?_)
      · skip
        replace hb3 := eqP_iff.1 hb3
        refine AW.seq ?_
        refine AW.region ?_
        refine AO.xs rfl rfl rfl (XS.assign rfl) ?_
        refine AO.nil ?_
        refine AW.ret ?_
        exact ⟨_, rfl, congrArg boolD (eqP_no (fun e => hb3 (by subst e; rfl))).symm⟩
      · skip
        replace hb3 := eqP_false.1 hb3
        refine AW.skip ?_
        refine AW.region ?_
        refine AO.xs rfl rfl rfl (XS.move rfl) ?_
        refine AO.xs rfl rfl rfl (XS.addI rfl rfl (by omega)) ?_
        refine AO.xs rfl rfl rfl (XS.assign rfl) ?_
        refine AO.nil ?_
        exact ⟨i + 1, ⟨by omega, by rw [List.take_succ_eq_append_getElem (show i < xs.length by omega), List.take_succ_eq_append_getElem (show i < ys.length by omega), hk, Classical.not_not.1 hb3]⟩, (by dsimp only; omega), ⟨rfl, trivial⟩, ⟨⟨_, rfl, rfl⟩, ⟨_, rfl, rfl⟩, trivial⟩, rfl⟩
    · skip
      replace hb2 := of_decide_eq_false hb2
      refine AW.exit ?_
      refine AW.seq ?_
      refine AW.region ?_
      refine AO.xs rfl rfl rfl (XS.assign rfl) ?_
      refine AO.nil ?_
      refine AW.ret ?_
      obtain rfl : i = xs.length := by omega
      rw [List.take_length, List.take_of_length_le (by omega)] at hk
      exact ⟨_, rfl, congrArg boolD (eqP_yes (hk)).symm⟩

set_option maxRecDepth 100000 in
theorem equalStrings_c {xs ys : List ByteArray} (hx : xs.length ≤ 1048576) : AC Try.prog 61 [strsD xs, strsD ys] (fun d => d = boolD (eqP (xs = ys))) := by
  refine AC.intro Try.func61 Try.ntmps61 Try.results61 rfl (by simp) (fun w0 T => ?_)
  refine AW.seq ?_
  refine AW.region ?_
  refine AO.xs rfl rfl rfl (XS.assign rfl) ?_
  refine AO.nil ?_
  refine AW.seq ?_
  refine AW.seq ?_
  refine AW.region ?_
  refine AO.xs rfl rfl rfl (XS.move rfl) ?_
  refine AO.xs rfl rfl rfl (XS.lenM rfl (el rfl)) ?_
  refine AO.xs rfl rfl rfl (XS.move rfl) ?_
  refine AO.xs rfl rfl rfl (XS.lenM rfl (el rfl)) ?_
  refine AO.xs rfl rfl rfl (XS.int rfl rfl rfl) ?_
  refine AO.nil ?_
  refine AW.cond rfl (fun hb1 => ?_) (fun hb1 => ?_)
  · skip
    replace hb1 := bne_iff_ne.1 hb1
    refine AW.seq ?_
    refine AW.region ?_
    refine AO.xs rfl rfl rfl (XS.assign rfl) ?_
    refine AO.nil ?_
    refine AW.ret ?_
    exact ⟨_, rfl, congrArg boolD (eqP_no (fun e => hb1 (by rw [e]))).symm⟩
  · skip
    replace hb1 := bne_eq_false_iff_eq.1 hb1
    refine AW.skip ?_
    refine AW.seq ?_
    refine AW.seq ?_
    refine AW.region ?_
    refine AO.xs rfl rfl rfl (XS.move rfl) ?_
    refine AO.xs rfl rfl rfl (XS.lenM rfl (el rfl)) ?_
    refine AO.xs rfl rfl rfl (XS.move rfl) ?_
    refine AO.nil ?_
    refine AW.block ?_
    refine AW.loop [0, 1, 12] (fun i => [(13, .d (intD ((i : Nat) : Int)))]) (fun _ => _) (fun i => i ≤ xs.length ∧ xs.take i = ys.take i) (fun i => xs.length - i) (0) ⟨Nat.zero_le _, by simp⟩ ⟨rfl, trivial⟩ ⟨⟨_, rfl, rfl⟩, ⟨_, rfl, rfl⟩, ⟨_, rfl, rfl⟩, trivial⟩ rfl ?_
    intro i ⟨hi, hk⟩
    refine AW.seq ?_
    refine AW.region ?_
    refine AO.xs rfl rfl rfl (XS.int rfl rfl rfl) ?_
    refine AO.nil ?_
    refine AW.seq ?_
    refine AW.cond rfl (fun hb2 => ?_) (fun hb2 => ?_)
    · skip
      replace hb2 := of_decide_eq_true hb2
      refine AW.skip ?_
      refine AW.seq ?_
      refine AW.block ?_
      refine AW.seq ?_
      refine AW.region ?_
      refine AO.xs rfl rfl rfl (XS.move rfl) ?_
      refine AO.xs rfl rfl rfl (XS.assign rfl) ?_
      refine AO.nil ?_
      refine AW.seq ?_
      refine AW.drawn mix ?_
      refine DC.cons rfl rfl rfl (XS.move rfl) ?_
      refine DC.cons rfl rfl rfl (XS.move rfl) ?_
      refine DC.cons rfl rfl rfl (XS.indexM rfl rfl (el rfl) (by omega) rfl) ?_
      refine DC.cons rfl rfl rfl (XS.loadE rfl (on rfl) rfl) ?_
      refine DC.cons rfl rfl rfl (XS.move rfl) ?_
      refine DC.cons rfl rfl rfl (XS.move rfl) ?_
      refine DC.cons rfl rfl rfl (XS.indexM rfl rfl (el rfl) (by omega) rfl) ?_
      refine DC.cons rfl rfl rfl (XS.loadE rfl (on rfl) rfl) ?_
      refine DC.cons rfl rfl rfl (XS.strNe rfl rfl) ?_
      refine DC.done (by kernel_rfl) ?_
      refine AO.nil ?_
      refine AW.cond rfl (fun hb3 => ?_) (fun hb3 => ?_)
      · skip
        replace hb3 := eqP_iff.1 hb3
        refine AW.seq ?_
        refine AW.region ?_
        refine AO.xs rfl rfl rfl (XS.assign rfl) ?_
        refine AO.nil ?_
        refine AW.ret ?_
        exact ⟨_, rfl, congrArg boolD (eqP_no (fun e => hb3 (by subst e; rfl))).symm⟩
      · skip
        replace hb3 := eqP_false.1 hb3
        refine AW.skip ?_
        refine AW.region ?_
        refine AO.xs rfl rfl rfl (XS.addI rfl rfl (by omega)) ?_
        refine AO.xs rfl rfl rfl (XS.move rfl) ?_
        refine AO.nil ?_
        exact ⟨i + 1, ⟨by omega, by rw [List.take_succ_eq_append_getElem (show i < xs.length by omega), List.take_succ_eq_append_getElem (show i < ys.length by omega), hk, Classical.not_not.1 hb3]⟩, (by dsimp only; omega), ⟨rfl, trivial⟩, ⟨⟨_, rfl, rfl⟩, ⟨_, rfl, rfl⟩, ⟨_, rfl, rfl⟩, trivial⟩, rfl⟩
    · skip
      replace hb2 := of_decide_eq_false hb2
      refine AW.exit ?_
      refine AW.seq ?_
      refine AW.region ?_
      refine AO.xs rfl rfl rfl (XS.assign rfl) ?_
      refine AO.nil ?_
      refine AW.ret ?_
      obtain rfl : i = xs.length := by omega
      rw [List.take_length, List.take_of_length_le (by omega)] at hk
      exact ⟨_, rfl, congrArg boolD (eqP_yes (hk)).symm⟩

set_option maxRecDepth 100000 in
theorem toWitness_c {n : Int} {xs : List ByteArray} (h : xs.length ≤ 1048576) : AC Try.prog 16 [.ag [intD n, strsD xs]] (fun d => d = .ag [intD n, strsD xs]) := by
  refine AC.intro Try.func16 Try.ntmps16 Try.results16 rfl (by simp) (fun w0 T => ?_)
  refine AW.seq ?_
  refine AW.region ?_
  refine AO.box rfl rfl rfl rfl ?_
  refine AO.alloc rfl rfl (ze rfl) ?_
  refine AO.nil ?_
  refine AW.seq ?_
  refine AW.region ?_
  refine AO.alloc rfl rfl (ze rfl) ?_
  refine AO.nil ?_
  refine AW.seq ?_
  refine AW.region ?_
  refine AO.xs rfl rfl rfl (XS.field rfl (fo rfl)) ?_
  refine AO.xs rfl rfl rfl (XS.load rfl (on rfl) rfl rfl) ?_
  refine AO.xs rfl rfl rfl (XS.field rfl (fo rfl)) ?_
  refine AO.store rfl rfl rfl rfl (sz rfl) rfl rfl rfl rfl ?_
  refine AO.nil ?_
  refine AW.seq ?_
  refine AW.region ?_
  refine AO.xs rfl rfl rfl (XS.field rfl (fo rfl)) ?_
  refine AO.xs rfl rfl rfl (XS.load rfl (on rfl) rfl rfl) ?_
  refine AO.xs rfl rfl rfl (XS.call rfl (by kernel_rfl) rfl (toStringS_c (by omega))) ?_
  refine AO.xs rfl rfl rfl (XS.field rfl (fo rfl)) ?_
  refine AO.store rfl rfl rfl rfl (sz rfl) rfl rfl rfl rfl ?_
  refine AO.nil ?_
  refine AW.seq ?_
  refine AW.region ?_
  refine AO.xs rfl rfl rfl (XS.loadA rfl (ro rfl) (sz rfl) rfl (Nat.le_of_ble_eq_true rfl)) ?_
  refine AO.store rfl rfl rfl rfl (sz rfl) rfl rfl rfl rfl ?_
  refine AO.nil ?_
  refine AW.ret ?_
  exact ⟨_, rfl, rfl⟩

set_option maxRecDepth 100000 in
theorem szWitness_c {n : Int} {xs : List ByteArray} {l : Int} (hl : 0 ≤ l ∧ l ≤ 1048576) (hn : xs.length ≤ maxLen) (hz : ∀ s ∈ xs, s.size ≤ maxLen) : AC Try.prog 14 [.ag [intD n, strsD xs], intD l] (fun d => d = intD (left l (costS xs))) := by
  refine AC.intro Try.func14 Try.ntmps14 Try.results14 rfl (by simp) (fun w0 T => ?_)
  refine AW.seq ?_
  refine AW.region ?_
  refine AO.box rfl rfl rfl rfl ?_
  refine AO.xs rfl rfl rfl (XS.assign rfl) ?_
  refine AO.nil ?_
  refine AW.seq ?_
  refine AW.region ?_
  refine AO.xs rfl rfl rfl (XS.field rfl (fo rfl)) ?_
  refine AO.xs rfl rfl rfl (XS.load rfl (on rfl) rfl rfl) ?_
  refine AO.xs rfl rfl rfl (XS.move rfl) ?_
  refine AO.xs rfl rfl rfl (XS.call rfl (by kernel_rfl) rfl (szStringS_c hl hn hz)) ?_
  refine AO.xs rfl rfl rfl (XS.assign rfl) ?_
  refine AO.nil ?_
  refine AW.seq ?_
  refine AW.seq ?_
  refine AW.region ?_
  refine AO.xs rfl rfl rfl (XS.move rfl) ?_
  refine AO.xs rfl rfl rfl (XS.int rfl rfl rfl) ?_
  refine AO.nil ?_
  refine AW.cond rfl (fun hb1 => ?_) (fun hb1 => ?_)
  · skip
    replace hb1 := of_decide_eq_true hb1
    refine AW.seq ?_
    refine AW.region ?_
    refine AO.xs rfl rfl rfl (XS.assign rfl) ?_
    refine AO.nil ?_
    refine AW.ret ?_
    exact ⟨_, rfl, congrArg intD (left_neg hb1).symm⟩
  · skip
    replace hb1 := of_decide_eq_false hb1
    refine AW.skip ?_
    refine AW.seq ?_
    refine AW.region ?_
    refine AO.xs rfl rfl rfl (XS.move rfl) ?_
    refine AO.xs rfl rfl rfl (XS.assign rfl) ?_
    refine AO.nil ?_
    refine AW.ret ?_
    exact ⟨_, rfl, rfl⟩

set_option maxRecDepth 100000 in
theorem eqWitness_c {m n : Int} {xs ys : List ByteArray} (hx : xs.length ≤ 1048576) : AC Try.prog 18 [.ag [intD m, strsD xs], .ag [intD n, strsD ys]] (fun d => d = boolD (eqP (m = n ∧ xs = ys))) := by
  refine AC.intro Try.func18 Try.ntmps18 Try.results18 rfl (by simp) (fun w0 T => ?_)
  refine AW.seq ?_
  refine AW.region ?_
  refine AO.box rfl rfl rfl rfl ?_
  refine AO.box rfl rfl rfl rfl ?_
  refine AO.xs rfl rfl rfl (XS.assign rfl) ?_
  refine AO.nil ?_
  refine AW.seq ?_
  refine AW.seq ?_
  refine AW.region ?_
  refine AO.xs rfl rfl rfl (XS.field rfl (fo rfl)) ?_
  refine AO.xs rfl rfl rfl (XS.load rfl (on rfl) rfl rfl) ?_
  refine AO.xs rfl rfl rfl (XS.field rfl (fo rfl)) ?_
  refine AO.xs rfl rfl rfl (XS.load rfl (on rfl) rfl rfl) ?_
  refine AO.xs rfl rfl rfl (XS.int rfl rfl rfl) ?_
  refine AO.nil ?_
  refine AW.cond rfl (fun hb1 => ?_) (fun hb1 => ?_)
  · skip
    replace hb1 := bne_iff_ne.1 hb1
    refine AW.seq ?_
    refine AW.region ?_
    refine AO.xs rfl rfl rfl (XS.assign rfl) ?_
    refine AO.nil ?_
    refine AW.ret ?_
    exact ⟨_, rfl, congrArg boolD (eqP_no (fun e => hb1 e.1)).symm⟩
  · skip
    replace hb1 := bne_eq_false_iff_eq.1 hb1
    refine AW.skip ?_
    refine AW.seq ?_
    refine AW.seq ?_
    refine AW.region ?_
    refine AO.xs rfl rfl rfl (XS.field rfl (fo rfl)) ?_
    refine AO.xs rfl rfl rfl (XS.load rfl (on rfl) rfl rfl) ?_
    refine AO.xs rfl rfl rfl (XS.field rfl (fo rfl)) ?_
    refine AO.xs rfl rfl rfl (XS.load rfl (on rfl) rfl rfl) ?_
    refine AO.xs rfl rfl rfl (XS.call rfl (by kernel_rfl) rfl (eqStringS_c (by omega))) ?_
    refine AO.xs rfl rfl rfl (XS.not rfl) ?_
    refine AO.nil ?_
    refine AW.cond rfl (fun hb2 => ?_) (fun hb2 => ?_)
    · skip
      replace hb2 := eqP_false.1 (notT hb2)
      refine AW.seq ?_
      refine AW.region ?_
      refine AO.xs rfl rfl rfl (XS.assign rfl) ?_
      refine AO.nil ?_
      refine AW.ret ?_
      exact ⟨_, rfl, congrArg boolD (eqP_no (fun e => hb2 e.2)).symm⟩
    · skip
      replace hb2 := eqP_iff.1 (notF hb2)
      refine AW.skip ?_
      refine AW.seq ?_
      refine AW.region ?_
      refine AO.xs rfl rfl rfl (XS.assign rfl) ?_
      refine AO.nil ?_
      refine AW.ret ?_
      exact ⟨_, rfl, congrArg boolD (eqP_yes (⟨hb1, hb2⟩)).symm⟩

set_option maxRecDepth 100000 in
theorem sameWitnessI_c {m n : Int} {xs ys : List ByteArray} (hx : xs.length ≤ 1048576) : AC Try.prog 17 [.ag [intD m, strsD xs], .ag [intD n, strsD ys]] (fun d => d = boolD (eqP (m = n ∧ xs = ys))) := by
  refine AC.intro Try.func17 Try.ntmps17 Try.results17 rfl (by simp) (fun w0 T => ?_)
  refine AW.seq ?_
  refine AW.region ?_
  refine AO.box rfl rfl rfl rfl ?_
  refine AO.box rfl rfl rfl rfl ?_
  refine AO.xs rfl rfl rfl (XS.assign rfl) ?_
  refine AO.nil ?_
  refine AW.seq ?_
  refine AW.region ?_
  refine AO.xs rfl rfl rfl (XS.field rfl (fo rfl)) ?_
  refine AO.xs rfl rfl rfl (XS.load rfl (on rfl) rfl rfl) ?_
  refine AO.xs rfl rfl rfl (XS.field rfl (fo rfl)) ?_
  refine AO.xs rfl rfl rfl (XS.load rfl (on rfl) rfl rfl) ?_
  refine AO.xs rfl rfl rfl (XS.int rfl rfl rfl) ?_
  refine AO.xs rfl rfl rfl (XS.move rfl) ?_
  refine AO.split 10 rfl (fun hg1 => ?_) (fun hg1 => ?_)
  · skip
    have hg1n := eq_of_beq hg1
    refine AO.gyes rfl rfl rfl rfl rfl rfl hg1 rfl (XS.field rfl (fo rfl)) ?_
    refine AO.gyes rfl rfl rfl rfl rfl rfl hg1 rfl (XS.load rfl (on rfl) rfl rfl) ?_
    refine AO.gyes rfl rfl rfl rfl rfl rfl hg1 rfl (XS.field rfl (fo rfl)) ?_
    refine AO.gyes rfl rfl rfl rfl rfl rfl hg1 rfl (XS.load rfl (on rfl) rfl rfl) ?_
    refine AO.gyes rfl rfl rfl rfl rfl rfl hg1 rfl (XS.call rfl (by kernel_rfl) rfl (equalStrings_c (by omega))) ?_
    refine AO.xs rfl rfl rfl (XS.pickT rfl rfl hg1) ?_
    refine AO.xs rfl rfl rfl (XS.assign rfl) ?_
    refine AO.nil ?_
    refine AW.ret ?_
    exact ⟨_, rfl, congrArg boolD (eqP_congr ⟨fun h => ⟨hg1n, h⟩, fun h => h.2⟩)⟩
  · skip
    have hg1n := ne_of_beq_false hg1
    refine AO.gno rfl rfl rfl rfl rfl rfl hg1 (by decide) rfl ?_
    refine AO.gno rfl rfl rfl rfl rfl rfl hg1 (by decide) rfl ?_
    refine AO.gno rfl rfl rfl rfl rfl rfl hg1 (by decide) rfl ?_
    refine AO.gno rfl rfl rfl rfl rfl rfl hg1 (by decide) rfl ?_
    refine AO.gno rfl rfl rfl rfl rfl rfl hg1 (by decide) rfl ?_
    refine AO.xs rfl rfl rfl (XS.pickF rfl rfl hg1) ?_
    refine AO.xs rfl rfl rfl (XS.assign rfl) ?_
    refine AO.nil ?_
    refine AW.ret ?_
    exact ⟨_, rfl, congrArg boolD (eqP_no (fun e => hg1n e.1)).symm⟩

set_option maxRecDepth 100000 in
theorem sameWitnessS_c {m n : Int} {xs ys : List ByteArray} (hx : xs.length ≤ 1048576) : AC Try.prog 15 [.ag [intD m, strsD xs], .ag [intD n, strsD ys]] (fun d => d = boolD (eqP (m = n ∧ xs = ys))) := by
  refine AC.intro Try.func15 Try.ntmps15 Try.results15 rfl (by simp) (fun w0 T => ?_)
  refine AW.seq ?_
  refine AW.region ?_
  refine AO.box rfl rfl rfl rfl ?_
  refine AO.box rfl rfl rfl rfl ?_
  refine AO.xs rfl rfl rfl (XS.assign rfl) ?_
  refine AO.nil ?_
  refine AW.seq ?_
  refine AW.seq ?_
  refine AW.region ?_
  refine AO.xs rfl rfl rfl (XS.field rfl (fo rfl)) ?_
  refine AO.xs rfl rfl rfl (XS.load rfl (on rfl) rfl rfl) ?_
  refine AO.xs rfl rfl rfl (XS.field rfl (fo rfl)) ?_
  refine AO.xs rfl rfl rfl (XS.load rfl (on rfl) rfl rfl) ?_
  refine AO.xs rfl rfl rfl (XS.int rfl rfl rfl) ?_
  refine AO.xs rfl rfl rfl (XS.move rfl) ?_
  refine AO.split 11 rfl (fun hg1 => ?_) (fun hg1 => ?_)
  · skip
    have hg1n := bne_iff_ne.1 hg1
    refine AO.gno rfl rfl rfl rfl rfl rfl hg1 (by decide) rfl ?_
    refine AO.gno rfl rfl rfl rfl rfl rfl hg1 (by decide) rfl ?_
    refine AO.gno rfl rfl rfl rfl rfl rfl hg1 (by decide) rfl ?_
    refine AO.gno rfl rfl rfl rfl rfl rfl hg1 (by decide) rfl ?_
    refine AO.gno rfl rfl rfl rfl rfl rfl hg1 (by decide) rfl ?_
    refine AO.gno rfl rfl rfl rfl rfl rfl hg1 (by decide) rfl ?_
    refine AO.gno rfl rfl rfl rfl rfl rfl hg1 (by decide) rfl ?_
    refine AO.xs rfl rfl rfl (XS.pickT rfl rfl hg1) ?_
    refine AO.nil ?_
    refine AW.condT rfl rfl ?_
    refine AW.seq ?_
    refine AW.region ?_
    refine AO.xs rfl rfl rfl (XS.assign rfl) ?_
    refine AO.nil ?_
    refine AW.ret ?_
    exact ⟨_, rfl, congrArg boolD (eqP_no (fun e => hg1n e.1)).symm⟩
  · skip
    have hg1n := bne_eq_false_iff_eq.1 hg1
    refine AO.gyes rfl rfl rfl rfl rfl rfl hg1 rfl (XS.field rfl (fo rfl)) ?_
    refine AO.gyes rfl rfl rfl rfl rfl rfl hg1 rfl (XS.load rfl (on rfl) rfl rfl) ?_
    refine AO.gyes rfl rfl rfl rfl rfl rfl hg1 rfl (XS.lenM rfl (el rfl)) ?_
    refine AO.gyes rfl rfl rfl rfl rfl rfl hg1 rfl (XS.field rfl (fo rfl)) ?_
    refine AO.gyes rfl rfl rfl rfl rfl rfl hg1 rfl (XS.load rfl (on rfl) rfl rfl) ?_
    refine AO.gyes rfl rfl rfl rfl rfl rfl hg1 rfl (XS.lenM rfl (el rfl)) ?_
    refine AO.gyes rfl rfl rfl rfl rfl rfl hg1 rfl (XS.int rfl rfl rfl) ?_
    refine AO.xs rfl rfl rfl (XS.pickF rfl rfl hg1) ?_
    refine AO.nil ?_
    refine AW.cond rfl (fun hb2 => ?_) (fun hb2 => ?_)
    · skip
      replace hb2 := bne_iff_ne.1 hb2
      refine AW.seq ?_
      refine AW.region ?_
      refine AO.xs rfl rfl rfl (XS.assign rfl) ?_
      refine AO.nil ?_
      refine AW.ret ?_
      exact ⟨_, rfl, congrArg boolD (eqP_no (fun e => hb2 (by rw [e.2]))).symm⟩
    · skip
      replace hb2 := bne_eq_false_iff_eq.1 hb2
      refine AW.skip ?_
      refine AW.seq ?_
      refine AW.seq ?_
      refine AW.region ?_
      refine AO.xs rfl rfl rfl (XS.assign rfl) ?_
      refine AO.nil ?_
      refine AW.block ?_
      refine AW.loop [2, 3] (fun i => [(5, .d (intD ((i : Nat) : Int)))]) (fun _ => _) (fun i => i ≤ xs.length ∧ xs.take i = ys.take i) (fun i => xs.length - i) (0) ⟨Nat.zero_le _, by simp⟩ ⟨rfl, trivial⟩ ⟨⟨_, rfl, rfl⟩, ⟨_, rfl, rfl⟩, trivial⟩ rfl ?_
      intro i ⟨hi, hk⟩
      refine AW.seq ?_
      refine AW.seq ?_
      refine AW.region ?_
      refine AO.xs rfl rfl rfl (XS.move rfl) ?_
      refine AO.xs rfl rfl rfl (XS.field rfl (fo rfl)) ?_
      refine AO.xs rfl rfl rfl (XS.load rfl (on rfl) rfl rfl) ?_
      refine AO.xs rfl rfl rfl (XS.lenM rfl (el rfl)) ?_
      refine AO.xs rfl rfl rfl (XS.int rfl rfl rfl) ?_
      refine AO.nil ?_
      refine AW.cond rfl (fun hb3 => ?_) (fun hb3 => ?_)
      · skip
        replace hb3 := of_decide_eq_true hb3
        refine AW.skip ?_
        refine AW.seq ?_
        refine AW.block ?_
        refine AW.seq ?_
        refine AW.drawn mix ?_
        refine DC.cons rfl rfl rfl (XS.field rfl (fo rfl)) ?_
        refine DC.cons rfl rfl rfl (XS.load rfl (on rfl) rfl rfl) ?_
        refine DC.cons rfl rfl rfl (XS.move rfl) ?_
        refine DC.cons rfl rfl rfl (XS.indexM rfl rfl (el rfl) (by omega) rfl) ?_
        refine DC.cons rfl rfl rfl (XS.loadE rfl (on rfl) rfl) ?_
        refine DC.cons rfl rfl rfl (XS.field rfl (fo rfl)) ?_
        refine DC.cons rfl rfl rfl (XS.load rfl (on rfl) rfl rfl) ?_
        refine DC.cons rfl rfl rfl (XS.move rfl) ?_
        refine DC.cons rfl rfl rfl (XS.indexM rfl rfl (el rfl) (by omega) rfl) ?_
        refine DC.cons rfl rfl rfl (XS.loadE rfl (on rfl) rfl) ?_
        refine DC.cons rfl rfl rfl (XS.strNe rfl rfl) ?_
        refine DC.done (by kernel_rfl) ?_
        refine AO.nil ?_
        refine AW.cond rfl (fun hb4 => ?_) (fun hb4 => ?_)
        · skip
          replace hb4 := eqP_iff.1 hb4
          refine AW.seq ?_
          refine AW.region ?_
          refine AO.xs rfl rfl rfl (XS.assign rfl) ?_
          refine AO.nil ?_
          refine AW.ret ?_
          exact ⟨_, rfl, congrArg boolD (eqP_no (fun e => hb4 (by obtain ⟨_, rfl⟩ := e; rfl))).symm⟩
        · skip
          replace hb4 := eqP_false.1 hb4
          refine AW.skip ?_
          refine AW.region ?_
          refine AO.xs rfl rfl rfl (XS.move rfl) ?_
          refine AO.xs rfl rfl rfl (XS.addI rfl rfl (by omega)) ?_
          refine AO.xs rfl rfl rfl (XS.assign rfl) ?_
          refine AO.nil ?_
          exact ⟨i + 1, ⟨by omega, by rw [List.take_succ_eq_append_getElem (show i < xs.length by omega), List.take_succ_eq_append_getElem (show i < ys.length by omega), hk, Classical.not_not.1 hb4]⟩, (by dsimp only; omega), ⟨rfl, trivial⟩, ⟨⟨_, rfl, rfl⟩, ⟨_, rfl, rfl⟩, trivial⟩, rfl⟩
      · skip
        replace hb3 := of_decide_eq_false hb3
        refine AW.exit ?_
        refine AW.seq ?_
        refine AW.region ?_
        refine AO.xs rfl rfl rfl (XS.assign rfl) ?_
        refine AO.nil ?_
        refine AW.ret ?_
        obtain rfl : i = xs.length := by omega
        rw [List.take_length, List.take_of_length_le (by omega)] at hk
        exact ⟨_, rfl, congrArg boolD (eqP_yes (⟨hg1n, hk⟩)).symm⟩

set_option maxRecDepth 100000 in
theorem fnSameWitness_c {m n : Int} {xs ys : List ByteArray} (hx : xs.length ≤ maxLen) (hxz : ∀ s ∈ xs, s.size ≤ maxLen) (hy : ys.length ≤ maxLen) (hyz : ∀ s ∈ ys, s.size ≤ maxLen) : AC Try.prog 3 [.ag [intD m, strsD xs], .ag [intD n, strsD ys]] (fun d => d = .im (.bool true)) := by
  refine AC.intro Try.func3 Try.ntmps3 Try.results3 rfl (by simp) (fun w0 T => ?_)
  refine AW.seq ?_
  refine AW.region ?_
  refine AO.box rfl rfl rfl rfl ?_
  refine AO.box rfl rfl rfl rfl ?_
  refine AO.xs rfl rfl rfl (XS.assign rfl) ?_
  refine AO.nil ?_
  refine AW.seq ?_
  refine AW.region ?_
  refine AO.xs rfl rfl rfl (XS.assign rfl) ?_
  refine AO.nil ?_
  refine AW.seq ?_
  refine AW.region ?_
  refine AO.xs rfl rfl rfl (XS.loadA rfl (ro rfl) (sz rfl) rfl (Nat.le_of_ble_eq_true rfl)) ?_
  refine AO.xs rfl rfl rfl (XS.move rfl) ?_
  refine AO.xs rfl rfl rfl (XS.call rfl (by kernel_rfl) rfl (szWitness_c (by omega) hx hxz)) ?_
  refine AO.xs rfl rfl rfl (XS.assign rfl) ?_
  refine AO.nil ?_
  refine AW.seq ?_
  refine AW.seq ?_
  refine AW.region ?_
  refine AO.xs rfl rfl rfl (XS.move rfl) ?_
  refine AO.xs rfl rfl rfl (XS.int rfl rfl rfl) ?_
  refine AO.nil ?_
  refine AW.cond rfl (fun hb1 => ?_) (fun hb1 => ?_)
  · skip
    replace hb1 := of_decide_eq_true hb1
    refine AW.seq ?_
    refine AW.region ?_
    refine AO.xs rfl rfl rfl (XS.assign rfl) ?_
    refine AO.nil ?_
    refine AW.ret ?_
    exact ⟨_, rfl, rfl⟩
  · skip
    replace hb1 := of_decide_eq_false hb1
    have k1 := left_ge hb1
    have k2 : xs.length ≤ costS xs := Nat.le_add_right _ _
    refine AW.skip ?_
    refine AW.seq ?_
    refine AW.region ?_
    refine AO.xs rfl rfl rfl (XS.loadA rfl (ro rfl) (sz rfl) rfl (Nat.le_of_ble_eq_true rfl)) ?_
    refine AO.xs rfl rfl rfl (XS.move rfl) ?_
    refine AO.xs rfl rfl rfl (XS.call rfl (by kernel_rfl) rfl (szWitness_c (by omega) hy hyz)) ?_
    refine AO.xs rfl rfl rfl (XS.assign rfl) ?_
    refine AO.nil ?_
    refine AW.seq ?_
    refine AW.seq ?_
    refine AW.region ?_
    refine AO.xs rfl rfl rfl (XS.move rfl) ?_
    refine AO.xs rfl rfl rfl (XS.int rfl rfl rfl) ?_
    refine AO.nil ?_
    refine AW.cond rfl (fun hb2 => ?_) (fun hb2 => ?_)
    · skip
      replace hb2 := of_decide_eq_true hb2
      refine AW.seq ?_
      refine AW.region ?_
      refine AO.xs rfl rfl rfl (XS.assign rfl) ?_
      refine AO.nil ?_
      refine AW.ret ?_
      exact ⟨_, rfl, rfl⟩
    · skip
      replace hb2 := of_decide_eq_false hb2
      have k3 := left_ge hb2
      have k4 : ys.length ≤ costS ys := Nat.le_add_right _ _
      refine AW.skip ?_
      refine AW.seq ?_
      refine AW.drawn mix ?_
      refine DC.cons rfl rfl rfl (XS.loadA rfl (ro rfl) (sz rfl) rfl (Nat.le_of_ble_eq_true rfl)) ?_
      refine DC.cons rfl rfl rfl (XS.call rfl (by kernel_rfl) rfl (toWitness_c (by omega))) ?_
      refine DC.cons rfl rfl rfl (XS.loadA rfl (ro rfl) (sz rfl) rfl (Nat.le_of_ble_eq_true rfl)) ?_
      refine DC.cons rfl rfl rfl (XS.call rfl (by kernel_rfl) rfl (toWitness_c (by omega))) ?_
      refine DC.cons rfl rfl rfl (XS.call rfl (by kernel_rfl) rfl (sameWitnessS_c (by omega))) ?_
      refine DC.cons rfl rfl rfl (XS.assign rfl) ?_
      refine DC.done (by kernel_rfl) ?_
      refine AO.nil ?_
      refine AW.seq ?_
      refine AW.region ?_
      refine AO.xs rfl rfl rfl (XS.loadA rfl (ro rfl) (sz rfl) rfl (Nat.le_of_ble_eq_true rfl)) ?_
      refine AO.xs rfl rfl rfl (XS.call rfl (by kernel_rfl) rfl (toWitness_c (by omega))) ?_
      refine AO.alloc rfl rfl (ze rfl) ?_
      refine AO.store rfl rfl rfl rfl (sz rfl) rfl rfl rfl rfl ?_
      refine AO.nil ?_
      refine AW.seq ?_
      refine AW.region ?_
      refine AO.xs rfl rfl rfl (XS.loadA rfl (ro rfl) (sz rfl) rfl (Nat.le_of_ble_eq_true rfl)) ?_
      refine AO.xs rfl rfl rfl (XS.call rfl (by kernel_rfl) rfl (toWitness_c (by omega))) ?_
      refine AO.alloc rfl rfl (ze rfl) ?_
      refine AO.store rfl rfl rfl rfl (sz rfl) rfl rfl rfl rfl ?_
      refine AO.nil ?_
      refine AW.seq ?_
      refine AW.region ?_
      refine AO.xs rfl rfl rfl (XS.loadA rfl (ro rfl) (sz rfl) rfl (Nat.le_of_ble_eq_true rfl)) ?_
      refine AO.xs rfl rfl rfl (XS.loadA rfl (ro rfl) (sz rfl) rfl (Nat.le_of_ble_eq_true rfl)) ?_
      refine AO.xs rfl rfl rfl (XS.call rfl (by kernel_rfl) rfl (sameWitnessI_c (by omega))) ?_
      refine AO.xs rfl rfl rfl (XS.assign rfl) ?_
      refine AO.nil ?_
      refine AW.seq ?_
      refine AW.seq ?_
      refine AW.region ?_
      refine AO.xs rfl rfl rfl (XS.move rfl) ?_
      refine AO.xs rfl rfl rfl (XS.move rfl) ?_
      refine AO.xs rfl rfl rfl (XS.boolNe rfl rfl (bo rfl)) ?_
      refine AO.nil ?_
      refine AW.cond rfl (fun hb3 => ?_) (fun hb3 => ?_)
      · skip
        replace hb3 := bne_iff_ne.1 hb3
        exact absurd rfl hb3
      · skip
        replace hb3 := bne_eq_false_iff_eq.1 hb3
        refine AW.skip ?_
        refine AW.seq ?_
        refine AW.seq ?_
        refine AW.drawn mix ?_
        refine DC.cons rfl rfl rfl (XS.loadA rfl (ro rfl) (sz rfl) rfl (Nat.le_of_ble_eq_true rfl)) ?_
        refine DC.cons rfl rfl rfl (XS.loadA rfl (ro rfl) (sz rfl) rfl (Nat.le_of_ble_eq_true rfl)) ?_
        refine DC.cons rfl rfl rfl (XS.call rfl (by kernel_rfl) rfl (toWitness_c (by omega))) ?_
        refine DC.cons rfl rfl rfl (XS.call rfl (by kernel_rfl) rfl (eqWitness_c (by omega))) ?_
        refine DC.cons rfl rfl rfl (XS.not rfl) ?_
        refine DC.done (by kernel_rfl) ?_
        refine AO.nil ?_
        refine AW.cond rfl (fun hb4 => ?_) (fun hb4 => ?_)
        · skip
          replace hb4 := eqP_false.1 (notT hb4)
          exact absurd ⟨rfl, rfl⟩ hb4
        · skip
          replace hb4 := eqP_iff.1 (notF hb4)
          refine AW.skip ?_
          refine AW.seq ?_
          refine AW.seq ?_
          refine AW.drawn mix ?_
          refine DC.cons rfl rfl rfl (XS.loadA rfl (ro rfl) (sz rfl) rfl (Nat.le_of_ble_eq_true rfl)) ?_
          refine DC.cons rfl rfl rfl (XS.loadA rfl (ro rfl) (sz rfl) rfl (Nat.le_of_ble_eq_true rfl)) ?_
          refine DC.cons rfl rfl rfl (XS.call rfl (by kernel_rfl) rfl (toWitness_c (by omega))) ?_
          refine DC.cons rfl rfl rfl (XS.call rfl (by kernel_rfl) rfl (eqWitness_c (by omega))) ?_
          refine DC.cons rfl rfl rfl (XS.not rfl) ?_
          refine DC.done (by kernel_rfl) ?_
          refine AO.nil ?_
          refine AW.cond rfl (fun hb5 => ?_) (fun hb5 => ?_)
          · skip
            replace hb5 := eqP_false.1 (notT hb5)
            exact absurd ⟨rfl, rfl⟩ hb5
          · skip
            replace hb5 := eqP_iff.1 (notF hb5)
            refine AW.skip ?_
            refine AW.seq ?_
            refine AW.region ?_
            refine AO.xs rfl rfl rfl (XS.assign rfl) ?_
            refine AO.nil ?_
            refine AW.ret ?_
            exact ⟨_, rfl, rfl⟩

end Go.Proofs.Ytnepbbhcbehilaa.C
