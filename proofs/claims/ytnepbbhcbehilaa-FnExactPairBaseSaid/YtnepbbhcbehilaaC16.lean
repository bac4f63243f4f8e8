/-
  OWN WORK, printed by wip/tools/gen.py out of the translation and of the contracts in wip/specs.
-/
import Derived.Test.YtnepbbhcbehilaaC15
import Derived.Test.YtnepbbhcbehilaaN7
namespace Go.Proofs.Ytnepbbhcbehilaa.C
open Go Go.RowKit Go.Proofs.Ytnepbbhcbehilaa.Av Go.Proofs.Ytnepbbhcbehilaa.Ty Go.Proofs.Ytnepbbhcbehilaa.Num
set_option linter.unusedVariables false


theorem all_small {l : List ByteArray} (h : (l.all fun s => decide (s.size ≤ 1000)) = true) : ∀ s ∈ l, s.size ≤ 1000 := fun s hs => of_decide_eq_true (List.all_eq_true.1 h s hs)
def numsD (ns : List Nat) : Dv := .sl (ns.map fun n => [natD n])
def fmD (f : Fm) : List Dv := [strD f.nm, boolD f.br, natD (beN f.p), natD (beN f.r), natD (beN f.b), natD (beN f.ba), natD (beN f.bb), natD (beN f.x), natD (beN f.y), natD (beN f.xa), natD (beN f.xb), natD (beN f.ya), natD (beN f.yb)]
theorem fig_lit {s t : ByteArray} (h1 : figsB s = true) (h2 : dN s s.size = beN t) : natD (figN s) = natD (beN t) := by unfold figN; rw [sel_yes (figsB_ok h1), h2]

set_option maxRecDepth 100000 in
theorem figured_c {xs : List ByteArray} (h : ∀ s ∈ xs, s.size ≤ 1000) (hn : xs.length ≤ 1000) : AC Try.prog 139 [strsD xs] (fun d => d = numsD (xs.map figN)) := by
  refine AC.intro Try.func139 Try.ntmps139 Try.results139 rfl (by simp) (fun w0 T => ?_)
  refine AW.seq ?_
  refine AW.region ?_
  refine AO.xs rfl rfl rfl (XS.assign rfl) ?_
  refine AO.nil ?_
  refine AW.seq ?_
  refine AW.region ?_
  refine AO.lit0 rfl rfl (ap rfl) ?_
  refine AO.xs rfl rfl rfl (XS.assign rfl) ?_
  refine AO.nil ?_
  refine AW.seq ?_
  refine AW.seq ?_
  refine AW.region ?_
  refine AO.xs rfl rfl rfl (XS.move rfl) ?_
  refine AO.xs rfl rfl rfl (XS.lenM rfl (el rfl)) ?_
  refine AO.xs rfl rfl rfl (XS.move rfl) ?_
  refine AO.nil ?_
  refine AW.block ?_
  refine AW.loop [2, 9, 10] (fun i => [(3, .r 0 i 1), (11, .d (intD ((i : Nat) : Int)))]) (fun i => [((xs.take i).map figN).map natD]) (fun i => i ≤ xs.length) (fun i => xs.length - i) (0) (Nat.zero_le _) ⟨rfl, rfl, trivial⟩ ⟨⟨_, rfl, rfl⟩, ⟨_, rfl, rfl⟩, ⟨_, rfl, rfl⟩, trivial⟩ rfl ?_
  intro i hi
  refine AW.seq ?_
  refine AW.region ?_
  refine AO.xs rfl rfl rfl (XS.int rfl rfl rfl) ?_
  refine AO.nil ?_
  refine AW.seq ?_
  refine AW.cond rfl (fun hb1 => ?_) (fun hb1 => ?_)
  · skip
    replace hb1 := of_decide_eq_true hb1
    refine AW.skip ?_
    refine AW.seq ?_
    refine AW.block ?_
    refine AW.seq ?_
    refine AW.region ?_
    refine AO.xs rfl rfl rfl (XS.indexM rfl rfl (el rfl) (by omega) rfl) ?_
    refine AO.xs rfl rfl rfl (XS.loadE rfl (on rfl) rfl) ?_
    refine AO.xs rfl rfl rfl (XS.assign rfl) ?_
    refine AO.nil ?_
    refine AW.seq ?_
    refine AW.region ?_
    refine AO.xs rfl rfl rfl (XS.move rfl) ?_
    refine AO.xs rfl rfl rfl (XS.call rfl (by kernel_rfl) rfl (fromFigures_c (h _ (List.getElem_mem (by omega))))) ?_
    refine AO.xs rfl rfl rfl (XS.move rfl) ?_
    refine AO.xs rfl rfl rfl (XS.extract rfl rfl) ?_
    refine AO.xs rfl rfl rfl (XS.extract rfl rfl) ?_
    refine AO.xs rfl rfl rfl (XS.assign rfl) ?_
    refine AO.xs rfl rfl rfl (XS.assign rfl) ?_
    refine AO.nil ?_
    refine AW.region ?_
    refine AO.xs rfl rfl rfl (XS.move rfl) ?_
    refine AO.xs rfl rfl rfl (XS.move rfl) ?_
    refine AO.xs rfl rfl rfl (XS.buildSlice (ap rfl) rfl rfl rfl (by decide)) ?_
    refine AO.appendD rfl rfl rfl rfl (ap rfl) (el rfl) (Nat.zero_le _) rfl (by rw [List.length_map, List.length_map, List.length_take]; omega) (by omega) (by simp only [maxLen]; omega) rfl ?_
    refine AO.xs rfl rfl rfl (XS.assign rfl) ?_
    refine AO.nil ?_
    refine AW.region ?_
    refine AO.xs rfl rfl rfl (XS.addN (n := 1) rfl rfl (by omega)) ?_
    refine AO.xs rfl rfl rfl (XS.move rfl) ?_
    refine AO.nil ?_
    exact ⟨i + 1, (by omega), (by dsimp only; omega), ⟨rfl, rfl, trivial⟩, ⟨⟨_, rfl, rfl⟩, ⟨_, rfl, rfl⟩, ⟨_, rfl, rfl⟩, trivial⟩, (congrArg (fun z => [z]) (by rw [List.take_succ_eq_append_getElem (by omega), List.map_append, List.map_append]; rfl))⟩
  · skip
    replace hb1 := of_decide_eq_false hb1
    refine AW.exit ?_
    refine AW.seq ?_
    refine AW.region ?_
    refine AO.xs rfl rfl rfl (XS.move rfl) ?_
    obtain rfl : i = xs.length := by omega
    refine AO.freeze1 (g := natD) (ns := (xs.take xs.length).map figN) 25 rfl (Nat.zero_le _) rfl (by rw [List.length_map, List.length_take]; omega) ?_
    refine AO.xs rfl rfl rfl (XS.assign rfl) ?_
    refine AO.nil ?_
    refine AW.ret ?_
    rw [List.take_length]
    exact ⟨_, rfl, rfl⟩

set_option maxRecDepth 100000 in
theorem formOf_c {nm : ByteArray} {br : Bool} {s0 s1 s2 s3 s4 s5 s6 s7 s8 s9 s10 : ByteArray} (h : ∀ s ∈ [s0, s1, s2, s3, s4, s5, s6, s7, s8, s9, s10], s.size ≤ 1000) : AC Try.prog 112 [strD nm, boolD br, strsD [s0, s1, s2, s3, s4, s5, s6, s7, s8, s9, s10]] (fun d => d = .ag [strD nm, boolD br, natD (figN s0), natD (figN s1), natD (figN s2), natD (figN s3), natD (figN s4), natD (figN s5), natD (figN s6), natD (figN s7), natD (figN s8), natD (figN s9), natD (figN s10)]) := by
  refine AC.intro Try.func112 Try.ntmps112 Try.results112 rfl (by simp) (fun w0 T => ?_)
  refine AW.seq ?_
  refine AW.region ?_
  refine AO.alloc rfl rfl (ze rfl) ?_
  refine AO.nil ?_
  refine AW.seq ?_
  refine AW.region ?_
  refine AO.xs rfl rfl rfl (XS.move rfl) ?_
  refine AO.xs rfl rfl rfl (XS.call rfl (by kernel_rfl) rfl (figured_c (xs := [s0, s1, s2, s3, s4, s5, s6, s7, s8, s9, s10]) h (by simp))) ?_
  refine AO.xs rfl rfl rfl (XS.assign rfl) ?_
  refine AO.nil ?_
  refine AW.seq ?_
  refine AW.drawn mix ?_
  refine DC.cons rfl rfl rfl (XS.move rfl) ?_
  refine DC.cons rfl rfl rfl (XS.move rfl) ?_
  refine DC.cons rfl rfl rfl (XS.move rfl) ?_
  refine DC.cons rfl rfl rfl (XS.indexM (j := 0) rfl rfl (el rfl) (by simp) rfl) ?_
  refine DC.cons rfl rfl rfl (XS.loadE rfl (on rfl) rfl) ?_
  refine DC.cons rfl rfl rfl (XS.move rfl) ?_
  refine DC.cons rfl rfl rfl (XS.indexM (j := 1) rfl rfl (el rfl) (by simp) rfl) ?_
  refine DC.cons rfl rfl rfl (XS.loadE rfl (on rfl) rfl) ?_
  refine DC.cons rfl rfl rfl (XS.move rfl) ?_
  refine DC.cons rfl rfl rfl (XS.indexM (j := 2) rfl rfl (el rfl) (by simp) rfl) ?_
  refine DC.cons rfl rfl rfl (XS.loadE rfl (on rfl) rfl) ?_
  refine DC.cons rfl rfl rfl (XS.move rfl) ?_
  refine DC.cons rfl rfl rfl (XS.indexM (j := 3) rfl rfl (el rfl) (by simp) rfl) ?_
  refine DC.cons rfl rfl rfl (XS.loadE rfl (on rfl) rfl) ?_
  refine DC.cons rfl rfl rfl (XS.move rfl) ?_
  refine DC.cons rfl rfl rfl (XS.indexM (j := 4) rfl rfl (el rfl) (by simp) rfl) ?_
  refine DC.cons rfl rfl rfl (XS.loadE rfl (on rfl) rfl) ?_
  refine DC.cons rfl rfl rfl (XS.build (ze rfl) (pl rfl) rfl rfl) ?_
  refine DC.cons rfl rfl rfl (XS.move rfl) ?_
  refine DC.cons rfl rfl rfl (XS.indexM (j := 5) rfl rfl (el rfl) (by simp) rfl) ?_
  refine DC.cons rfl rfl rfl (XS.loadE rfl (on rfl) rfl) ?_
  refine DC.cons rfl rfl rfl (XS.move rfl) ?_
  refine DC.cons rfl rfl rfl (XS.indexM (j := 6) rfl rfl (el rfl) (by simp) rfl) ?_
  refine DC.cons rfl rfl rfl (XS.loadE rfl (on rfl) rfl) ?_
  refine DC.cons rfl rfl rfl (XS.move rfl) ?_
  refine DC.cons rfl rfl rfl (XS.indexM (j := 7) rfl rfl (el rfl) (by simp) rfl) ?_
  refine DC.cons rfl rfl rfl (XS.loadE rfl (on rfl) rfl) ?_
  refine DC.cons rfl rfl rfl (XS.move rfl) ?_
  refine DC.cons rfl rfl rfl (XS.indexM (j := 8) rfl rfl (el rfl) (by simp) rfl) ?_
  refine DC.cons rfl rfl rfl (XS.loadE rfl (on rfl) rfl) ?_
  refine DC.cons rfl rfl rfl (XS.build (ze rfl) (pl rfl) rfl rfl) ?_
  refine DC.cons rfl rfl rfl (XS.move rfl) ?_
  refine DC.cons rfl rfl rfl (XS.indexM (j := 9) rfl rfl (el rfl) (by simp) rfl) ?_
  refine DC.cons rfl rfl rfl (XS.loadE rfl (on rfl) rfl) ?_
  refine DC.cons rfl rfl rfl (XS.move rfl) ?_
  refine DC.cons rfl rfl rfl (XS.indexM (j := 10) rfl rfl (el rfl) (by simp) rfl) ?_
  refine DC.cons rfl rfl rfl (XS.loadE rfl (on rfl) rfl) ?_
  refine DC.cons rfl rfl rfl (XS.build (ze rfl) (pl rfl) rfl rfl) ?_
  refine DC.cons rfl rfl rfl (XS.build (ze rfl) (pl rfl) rfl rfl) ?_
  refine DC.done (by kernel_rfl) ?_
  refine AO.store rfl rfl rfl rfl (sz rfl) rfl rfl rfl rfl ?_
  refine AO.nil ?_
  refine AW.ret ?_
  exact ⟨_, rfl, rfl⟩

set_option maxRecDepth 100000 in
theorem within_c {n l h : Int} : AC Try.prog 111 [intD n, intD l, intD h] (fun d => d = boolD (eqP (l ≤ n ∧ n ≤ h))) := by
  refine AC.intro Try.func111 Try.ntmps111 Try.results111 rfl (by simp) (fun w0 T => ?_)
  refine AW.seq ?_
  refine AW.region ?_
  refine AO.xs rfl rfl rfl (XS.assign rfl) ?_
  refine AO.nil ?_
  refine AW.seq ?_
  refine AW.region ?_
  refine AO.xs rfl rfl rfl (XS.move rfl) ?_
  refine AO.xs rfl rfl rfl (XS.move rfl) ?_
  refine AO.xs rfl rfl rfl (XS.int rfl rfl rfl) ?_
  refine AO.xs rfl rfl rfl (XS.move rfl) ?_
  refine AO.split 10 rfl (fun hg1 => ?_) (fun hg1 => ?_)
  · skip
    have hg1n := of_decide_eq_true hg1
    refine AO.gyes rfl rfl rfl rfl rfl rfl hg1 rfl (XS.move rfl) ?_
    refine AO.gyes rfl rfl rfl rfl rfl rfl hg1 rfl (XS.move rfl) ?_
    refine AO.gyes rfl rfl rfl rfl rfl rfl hg1 rfl (XS.int rfl rfl rfl) ?_
    refine AO.xs rfl rfl rfl (XS.pickT rfl rfl hg1) ?_
    refine AO.xs rfl rfl rfl (XS.assign rfl) ?_
    refine AO.nil ?_
    refine AW.ret ?_
    exact ⟨_, rfl, congrArg boolD (b_eqP (by rw [decide_eq_true_iff]; exact ⟨fun h => ⟨hg1n, h⟩, fun h => h.2⟩))⟩
  · skip
    have hg1n := of_decide_eq_false hg1
    refine AO.gno rfl rfl rfl rfl rfl rfl hg1 (by decide) rfl ?_
    refine AO.gno rfl rfl rfl rfl rfl rfl hg1 (by decide) rfl ?_
    refine AO.gno rfl rfl rfl rfl rfl rfl hg1 (by decide) rfl ?_
    refine AO.xs rfl rfl rfl (XS.pickF rfl rfl hg1) ?_
    refine AO.xs rfl rfl rfl (XS.assign rfl) ?_
    refine AO.nil ?_
    refine AW.ret ?_
    exact ⟨_, rfl, congrArg boolD (eqP_no (fun h => hg1n h.1)).symm⟩

set_option maxRecDepth 100000 in
theorem l01In_c {n l h : Int} : AC Try.prog 76 [intD n, intD l, intD h] (fun d => d = boolD (eqP (l ≤ n ∧ n ≤ h))) := by
  refine AC.intro Try.func76 Try.ntmps76 Try.results76 rfl (by simp) (fun w0 T => ?_)
  refine AW.seq ?_
  refine AW.region ?_
  refine AO.xs rfl rfl rfl (XS.assign rfl) ?_
  refine AO.nil ?_
  refine AW.seq ?_
  refine AW.region ?_
  refine AO.xs rfl rfl rfl (XS.move rfl) ?_
  refine AO.xs rfl rfl rfl (XS.move rfl) ?_
  refine AO.xs rfl rfl rfl (XS.int rfl rfl rfl) ?_
  refine AO.xs rfl rfl rfl (XS.move rfl) ?_
  refine AO.split 10 rfl (fun hg1 => ?_) (fun hg1 => ?_)
  · skip
    have hg1n := of_decide_eq_true hg1
    refine AO.gyes rfl rfl rfl rfl rfl rfl hg1 rfl (XS.move rfl) ?_
    refine AO.gyes rfl rfl rfl rfl rfl rfl hg1 rfl (XS.move rfl) ?_
    refine AO.gyes rfl rfl rfl rfl rfl rfl hg1 rfl (XS.int rfl rfl rfl) ?_
    refine AO.xs rfl rfl rfl (XS.pickT rfl rfl hg1) ?_
    refine AO.xs rfl rfl rfl (XS.assign rfl) ?_
    refine AO.nil ?_
    refine AW.ret ?_
    exact ⟨_, rfl, congrArg boolD (b_eqP (by rw [decide_eq_true_iff]; exact ⟨fun h => ⟨by omega, h⟩, fun h => h.2⟩))⟩
  · skip
    have hg1n := of_decide_eq_false hg1
    refine AO.gno rfl rfl rfl rfl rfl rfl hg1 (by decide) rfl ?_
    refine AO.gno rfl rfl rfl rfl rfl rfl hg1 (by decide) rfl ?_
    refine AO.gno rfl rfl rfl rfl rfl rfl hg1 (by decide) rfl ?_
    refine AO.xs rfl rfl rfl (XS.pickF rfl rfl hg1) ?_
    refine AO.xs rfl rfl rfl (XS.assign rfl) ?_
    refine AO.nil ?_
    refine AW.ret ?_
    exact ⟨_, rfl, congrArg boolD (eqP_no (fun h => hg1n (by omega))).symm⟩

def isCv (id : Int) : Prop := 1 ≤ id ∧ id ≤ 4
set_option maxRecDepth 100000 in
theorem isCurve_c {id : Int} : AC Try.prog 67 [intD id] (fun d => d = boolD (eqP (isCv id))) := by
  refine AC.intro Try.func67 Try.ntmps67 Try.results67 rfl (by simp) (fun w0 T => ?_)
  refine AW.seq ?_
  refine AW.region ?_
  refine AO.xs rfl rfl rfl (XS.assign rfl) ?_
  refine AO.nil ?_
  refine AW.seq ?_
  refine AW.region ?_
  refine AO.xs rfl rfl rfl (XS.move rfl) ?_
  refine AO.xs rfl rfl rfl (XS.call rfl (by kernel_rfl) rfl within_c) ?_
  refine AO.xs rfl rfl rfl (XS.assign rfl) ?_
  refine AO.nil ?_
  refine AW.ret ?_
  exact ⟨_, rfl, rfl⟩

set_option maxRecDepth 100000
theorem fl1_0 : natD (figN ⟨#[49, 55, 48, 54, 51, 49, 49]⟩) = natD (beN F1.p) := fig_lit (by decide +kernel) (by decide +kernel)
theorem fl1_1 : natD (figN ⟨#[49, 55, 48, 52, 57, 54, 49]⟩) = natD (beN F1.r) := fig_lit (by decide +kernel) (by decide +kernel)
theorem fl1_2 : natD (figN ⟨#[51]⟩) = natD (beN F1.b) := fig_lit (by decide +kernel) (by decide +kernel)
theorem fl1_3 : natD (figN ⟨#[52, 54, 49, 49, 55]⟩) = natD (beN F1.ba) := fig_lit (by decide +kernel) (by decide +kernel)
theorem fl1_4 : natD (figN ⟨#[50, 55, 54, 54, 57, 57]⟩) = natD (beN F1.bb) := fig_lit (by decide +kernel) (by decide +kernel)
theorem fl1_5 : natD (figN ⟨#[49]⟩) = natD (beN F1.x) := fig_lit (by decide +kernel) (by decide +kernel)
theorem fl1_6 : natD (figN ⟨#[50]⟩) = natD (beN F1.y) := fig_lit (by decide +kernel) (by decide +kernel)
theorem fl1_7 : natD (figN ⟨#[49, 48, 54, 53, 56, 53, 54]⟩) = natD (beN F1.xa) := fig_lit (by decide +kernel) (by decide +kernel)
theorem fl1_8 : natD (figN ⟨#[49, 51, 49, 55, 50, 50]⟩) = natD (beN F1.xb) := fig_lit (by decide +kernel) (by decide +kernel)
theorem fl1_9 : natD (figN ⟨#[54, 52, 52, 55, 53, 51]⟩) = natD (beN F1.ya) := fig_lit (by decide +kernel) (by decide +kernel)
theorem fl1_10 : natD (figN ⟨#[52, 55, 56, 52, 56, 48]⟩) = natD (beN F1.yb) := fig_lit (by decide +kernel) (by decide +kernel)
theorem fm1 : [strD ⟨#[110, 97, 114, 114, 111, 119, 45, 115, 109, 97, 108, 108]⟩, boolD false, natD (figN ⟨#[49, 55, 48, 54, 51, 49, 49]⟩), natD (figN ⟨#[49, 55, 48, 52, 57, 54, 49]⟩), natD (figN ⟨#[51]⟩), natD (figN ⟨#[52, 54, 49, 49, 55]⟩), natD (figN ⟨#[50, 55, 54, 54, 57, 57]⟩), natD (figN ⟨#[49]⟩), natD (figN ⟨#[50]⟩), natD (figN ⟨#[49, 48, 54, 53, 56, 53, 54]⟩), natD (figN ⟨#[49, 51, 49, 55, 50, 50]⟩), natD (figN ⟨#[54, 52, 52, 55, 53, 51]⟩), natD (figN ⟨#[52, 55, 56, 52, 56, 48]⟩)] = fmD F1 := by
  unfold fmD
  rw [fl1_0, fl1_1, fl1_2, fl1_3, fl1_4, fl1_5, fl1_6, fl1_7, fl1_8, fl1_9, fl1_10]
  rfl
theorem fl2_0 : natD (figN ⟨#[49, 48, 54, 52, 55, 51, 54, 51, 57, 48, 55]⟩) = natD (beN F2.p) := fig_lit (by decide +kernel) (by decide +kernel)
theorem fl2_1 : natD (figN ⟨#[57, 56, 51, 49, 51, 54, 49]⟩) = natD (beN F2.r) := fig_lit (by decide +kernel) (by decide +kernel)
theorem fl2_2 : natD (figN ⟨#[52]⟩) = natD (beN F2.b) := fig_lit (by decide +kernel) (by decide +kernel)
theorem fl2_3 : natD (figN ⟨#[52]⟩) = natD (beN F2.ba) := fig_lit (by decide +kernel) (by decide +kernel)
theorem fl2_4 : natD (figN ⟨#[52]⟩) = natD (beN F2.bb) := fig_lit (by decide +kernel) (by decide +kernel)
theorem fl2_5 : natD (figN ⟨#[49, 49, 50, 56, 49, 56, 50, 50, 57, 57]⟩) = natD (beN F2.x) := fig_lit (by decide +kernel) (by decide +kernel)
theorem fl2_6 : natD (figN ⟨#[53, 48, 53, 51, 52, 52, 49, 56, 54, 54]⟩) = natD (beN F2.y) := fig_lit (by decide +kernel) (by decide +kernel)
theorem fl2_7 : natD (figN ⟨#[54, 48, 50, 48, 50, 53, 54, 48, 52, 55]⟩) = natD (beN F2.xa) := fig_lit (by decide +kernel) (by decide +kernel)
theorem fl2_8 : natD (figN ⟨#[54, 53, 57, 56, 52, 52, 52, 50, 51, 52]⟩) = natD (beN F2.xb) := fig_lit (by decide +kernel) (by decide +kernel)
theorem fl2_9 : natD (figN ⟨#[49, 48, 56, 54, 55, 54, 50, 52, 55, 51]⟩) = natD (beN F2.ya) := fig_lit (by decide +kernel) (by decide +kernel)
theorem fl2_10 : natD (figN ⟨#[55, 50, 57, 55, 57, 56, 50, 52, 51, 48]⟩) = natD (beN F2.yb) := fig_lit (by decide +kernel) (by decide +kernel)
theorem fm2 : [strD ⟨#[98, 114, 111, 97, 100, 45, 115, 109, 97, 108, 108]⟩, boolD true, natD (figN ⟨#[49, 48, 54, 52, 55, 51, 54, 51, 57, 48, 55]⟩), natD (figN ⟨#[57, 56, 51, 49, 51, 54, 49]⟩), natD (figN ⟨#[52]⟩), natD (figN ⟨#[52]⟩), natD (figN ⟨#[52]⟩), natD (figN ⟨#[49, 49, 50, 56, 49, 56, 50, 50, 57, 57]⟩), natD (figN ⟨#[53, 48, 53, 51, 52, 52, 49, 56, 54, 54]⟩), natD (figN ⟨#[54, 48, 50, 48, 50, 53, 54, 48, 52, 55]⟩), natD (figN ⟨#[54, 53, 57, 56, 52, 52, 52, 50, 51, 52]⟩), natD (figN ⟨#[49, 48, 56, 54, 55, 54, 50, 52, 55, 51]⟩), natD (figN ⟨#[55, 50, 57, 55, 57, 56, 50, 52, 51, 48]⟩)] = fmD F2 := by
  unfold fmD
  rw [fl2_0, fl2_1, fl2_2, fl2_5, fl2_6, fl2_7, fl2_8, fl2_9, fl2_10]
  rfl
theorem fl3_0 : natD (figN ⟨#[50, 49, 56, 56, 56, 50, 52, 50, 56, 55, 49, 56, 51, 57, 50, 55, 53, 50, 50, 50, 50, 52, 54, 52, 48, 53, 55, 52, 53, 50, 53, 55, 50, 55, 53, 48, 56, 56, 54, 57, 54, 51, 49, 49, 49, 53, 55, 50, 57, 55, 56, 50, 51, 54, 54, 50, 54, 56, 57, 48, 51, 55, 56, 57, 52, 54, 52, 53, 50, 50, 54, 50, 48, 56, 53, 56, 51]⟩) = natD (beN F3.p) := fig_lit (by decide +kernel) (by decide +kernel)
theorem fl3_1 : natD (figN ⟨#[50, 49, 56, 56, 56, 50, 52, 50, 56, 55, 49, 56, 51, 57, 50, 55, 53, 50, 50, 50, 50, 52, 54, 52, 48, 53, 55, 52, 53, 50, 53, 55, 50, 55, 53, 48, 56, 56, 53, 52, 56, 51, 54, 52, 52, 48, 48, 52, 49, 54, 48, 51, 52, 51, 52, 51, 54, 57, 56, 50, 48, 52, 49, 56, 54, 53, 55, 53, 56, 48, 56, 52, 57, 53, 54, 49, 55]⟩) = natD (beN F3.r) := fig_lit (by decide +kernel) (by decide +kernel)
theorem fl3_2 : natD (figN ⟨#[51]⟩) = natD (beN F3.b) := fig_lit (by decide +kernel) (by decide +kernel)
theorem fl3_3 : natD (figN ⟨#[49, 57, 52, 56, 53, 56, 55, 52, 55, 53, 49, 55, 53, 57, 51, 53, 52, 55, 55, 49, 48, 50, 52, 50, 51, 57, 50, 54, 49, 48, 50, 49, 55, 50, 48, 53, 48, 53, 55, 57, 48, 54, 49, 56, 52, 54, 57, 51, 48, 49, 55, 50, 49, 48, 54, 53, 53, 54, 52, 54, 51, 49, 50, 57, 54, 52, 53, 50, 52, 53, 55, 52, 55, 56, 51, 55, 51]⟩) = natD (beN F3.ba) := fig_lit (by decide +kernel) (by decide +kernel)
theorem fl3_4 : natD (figN ⟨#[50, 54, 54, 57, 50, 57, 55, 57, 49, 49, 49, 57, 57, 57, 49, 49, 54, 49, 50, 52, 54, 57, 48, 55, 51, 56, 55, 49, 51, 55, 50, 56, 51, 56, 52, 50, 53, 52, 53, 48, 55, 54, 57, 54, 53, 51, 51, 50, 57, 48, 48, 50, 56, 56, 53, 54, 57, 51, 55, 56, 53, 49, 48, 57, 49, 48, 51, 48, 55, 54, 51, 54, 54, 57, 48]⟩) = natD (beN F3.bb) := fig_lit (by decide +kernel) (by decide +kernel)
theorem fl3_5 : natD (figN ⟨#[49]⟩) = natD (beN F3.x) := fig_lit (by decide +kernel) (by decide +kernel)
theorem fl3_6 : natD (figN ⟨#[50]⟩) = natD (beN F3.y) := fig_lit (by decide +kernel) (by decide +kernel)
theorem fl3_7 : natD (figN ⟨#[49, 48, 56, 53, 55, 48, 52, 54, 57, 57, 57, 48, 50, 51, 48, 53, 55, 49, 51, 53, 57, 52, 52, 53, 55, 48, 55, 54, 50, 50, 51, 50, 56, 50, 57, 52, 56, 49, 51, 55, 48, 55, 53, 54, 51, 53, 57, 53, 55, 56, 53, 49, 56, 48, 56, 54, 57, 57, 48, 53, 49, 57, 57, 57, 51, 50, 56, 53, 54, 53, 53, 56, 53, 50, 55, 56, 49]⟩) = natD (beN F3.xa) := fig_lit (by decide +kernel) (by decide +kernel)
theorem fl3_8 : natD (figN ⟨#[49, 49, 53, 53, 57, 55, 51, 50, 48, 51, 50, 57, 56, 54, 51, 56, 55, 49, 48, 55, 57, 57, 49, 48, 48, 52, 48, 50, 49, 51, 57, 50, 50, 56, 53, 55, 56, 51, 57, 50, 53, 56, 49, 50, 56, 54, 49, 56, 50, 49, 49, 57, 50, 53, 51, 48, 57, 49, 55, 52, 48, 51, 49, 53, 49, 52, 53, 50, 51, 57, 49, 56, 48, 53, 54, 51, 52]⟩) = natD (beN F3.xb) := fig_lit (by decide +kernel) (by decide +kernel)
theorem fl3_9 : natD (figN ⟨#[56, 52, 57, 53, 54, 53, 51, 57, 50, 51, 49, 50, 51, 52, 51, 49, 52, 49, 55, 54, 48, 52, 57, 55, 51, 50, 52, 55, 52, 56, 57, 50, 55, 50, 52, 51, 56, 52, 49, 56, 49, 57, 48, 53, 56, 55, 50, 54, 51, 54, 48, 48, 49, 52, 56, 55, 55, 48, 50, 56, 48, 54, 52, 57, 51, 48, 54, 57, 53, 56, 49, 48, 49, 57, 51, 48]⟩) = natD (beN F3.ya) := fig_lit (by decide +kernel) (by decide +kernel)
theorem fl3_10 : natD (figN ⟨#[52, 48, 56, 50, 51, 54, 55, 56, 55, 53, 56, 54, 51, 52, 51, 51, 54, 56, 49, 51, 51, 50, 50, 48, 51, 52, 48, 51, 49, 52, 53, 52, 51, 53, 53, 54, 56, 51, 49, 54, 56, 53, 49, 51, 50, 55, 53, 57, 51, 52, 48, 49, 50, 48, 56, 49, 48, 53, 55, 52, 49, 48, 55, 54, 50, 49, 52, 49, 50, 48, 48, 57, 51, 53, 51, 49]⟩) = natD (beN F3.yb) := fig_lit (by decide +kernel) (by decide +kernel)
theorem fm3 : [strD ⟨#[110, 97, 114, 114, 111, 119]⟩, boolD false, natD (figN ⟨#[50, 49, 56, 56, 56, 50, 52, 50, 56, 55, 49, 56, 51, 57, 50, 55, 53, 50, 50, 50, 50, 52, 54, 52, 48, 53, 55, 52, 53, 50, 53, 55, 50, 55, 53, 48, 56, 56, 54, 57, 54, 51, 49, 49, 49, 53, 55, 50, 57, 55, 56, 50, 51, 54, 54, 50, 54, 56, 57, 48, 51, 55, 56, 57, 52, 54, 52, 53, 50, 50, 54, 50, 48, 56, 53, 56, 51]⟩), natD (figN ⟨#[50, 49, 56, 56, 56, 50, 52, 50, 56, 55, 49, 56, 51, 57, 50, 55, 53, 50, 50, 50, 50, 52, 54, 52, 48, 53, 55, 52, 53, 50, 53, 55, 50, 55, 53, 48, 56, 56, 53, 52, 56, 51, 54, 52, 52, 48, 48, 52, 49, 54, 48, 51, 52, 51, 52, 51, 54, 57, 56, 50, 48, 52, 49, 56, 54, 53, 55, 53, 56, 48, 56, 52, 57, 53, 54, 49, 55]⟩), natD (figN ⟨#[51]⟩), natD (figN ⟨#[49, 57, 52, 56, 53, 56, 55, 52, 55, 53, 49, 55, 53, 57, 51, 53, 52, 55, 55, 49, 48, 50, 52, 50, 51, 57, 50, 54, 49, 48, 50, 49, 55, 50, 48, 53, 48, 53, 55, 57, 48, 54, 49, 56, 52, 54, 57, 51, 48, 49, 55, 50, 49, 48, 54, 53, 53, 54, 52, 54, 51, 49, 50, 57, 54, 52, 53, 50, 52, 53, 55, 52, 55, 56, 51, 55, 51]⟩), natD (figN ⟨#[50, 54, 54, 57, 50, 57, 55, 57, 49, 49, 49, 57, 57, 57, 49, 49, 54, 49, 50, 52, 54, 57, 48, 55, 51, 56, 55, 49, 51, 55, 50, 56, 51, 56, 52, 50, 53, 52, 53, 48, 55, 54, 57, 54, 53, 51, 51, 50, 57, 48, 48, 50, 56, 56, 53, 54, 57, 51, 55, 56, 53, 49, 48, 57, 49, 48, 51, 48, 55, 54, 51, 54, 54, 57, 48]⟩), natD (figN ⟨#[49]⟩), natD (figN ⟨#[50]⟩), natD (figN ⟨#[49, 48, 56, 53, 55, 48, 52, 54, 57, 57, 57, 48, 50, 51, 48, 53, 55, 49, 51, 53, 57, 52, 52, 53, 55, 48, 55, 54, 50, 50, 51, 50, 56, 50, 57, 52, 56, 49, 51, 55, 48, 55, 53, 54, 51, 53, 57, 53, 55, 56, 53, 49, 56, 48, 56, 54, 57, 57, 48, 53, 49, 57, 57, 57, 51, 50, 56, 53, 54, 53, 53, 56, 53, 50, 55, 56, 49]⟩), natD (figN ⟨#[49, 49, 53, 53, 57, 55, 51, 50, 48, 51, 50, 57, 56, 54, 51, 56, 55, 49, 48, 55, 57, 57, 49, 48, 48, 52, 48, 50, 49, 51, 57, 50, 50, 56, 53, 55, 56, 51, 57, 50, 53, 56, 49, 50, 56, 54, 49, 56, 50, 49, 49, 57, 50, 53, 51, 48, 57, 49, 55, 52, 48, 51, 49, 53, 49, 52, 53, 50, 51, 57, 49, 56, 48, 53, 54, 51, 52]⟩), natD (figN ⟨#[56, 52, 57, 53, 54, 53, 51, 57, 50, 51, 49, 50, 51, 52, 51, 49, 52, 49, 55, 54, 48, 52, 57, 55, 51, 50, 52, 55, 52, 56, 57, 50, 55, 50, 52, 51, 56, 52, 49, 56, 49, 57, 48, 53, 56, 55, 50, 54, 51, 54, 48, 48, 49, 52, 56, 55, 55, 48, 50, 56, 48, 54, 52, 57, 51, 48, 54, 57, 53, 56, 49, 48, 49, 57, 51, 48]⟩), natD (figN ⟨#[52, 48, 56, 50, 51, 54, 55, 56, 55, 53, 56, 54, 51, 52, 51, 51, 54, 56, 49, 51, 51, 50, 50, 48, 51, 52, 48, 51, 49, 52, 53, 52, 51, 53, 53, 54, 56, 51, 49, 54, 56, 53, 49, 51, 50, 55, 53, 57, 51, 52, 48, 49, 50, 48, 56, 49, 48, 53, 55, 52, 49, 48, 55, 54, 50, 49, 52, 49, 50, 48, 48, 57, 51, 53, 51, 49]⟩)] = fmD F3 := by
  unfold fmD
  rw [fl3_0, fl3_1, fl3_2, fl3_3, fl3_4, fl3_5, fl3_6, fl3_7, fl3_8, fl3_9, fl3_10]
  rfl
theorem fl4_0 : natD (figN ⟨#[52, 48, 48, 50, 52, 48, 57, 53, 53, 53, 50, 50, 49, 54, 54, 55, 51, 57, 51, 52, 49, 55, 55, 56, 57, 56, 50, 53, 55, 51, 53, 57, 48, 52, 49, 53, 54, 53, 53, 54, 56, 56, 50, 56, 49, 57, 57, 51, 57, 48, 48, 55, 56, 56, 53, 51, 51, 50, 48, 53, 56, 49, 51, 54, 49, 50, 52, 48, 51, 49, 54, 53, 48, 52, 57, 48, 56, 51, 55, 56, 54, 52, 52, 52, 50, 54, 56, 55, 54, 50, 57, 49, 50, 57, 48, 49, 53, 54, 54, 52, 48, 51, 55, 56, 57, 52, 50, 55, 50, 53, 53, 57, 55, 56, 55]⟩) = natD (beN F4.p) := fig_lit (by decide +kernel) (by decide +kernel)
theorem fl4_1 : natD (figN ⟨#[53, 50, 52, 51, 53, 56, 55, 53, 49, 55, 53, 49, 50, 54, 49, 57, 48, 52, 55, 57, 52, 52, 55, 55, 52, 48, 53, 48, 56, 49, 56, 53, 57, 54, 53, 56, 51, 55, 54, 57, 48, 53, 53, 50, 53, 48, 48, 53, 50, 55, 54, 51, 55, 56, 50, 50, 54, 48, 51, 54, 53, 56, 54, 57, 57, 57, 51, 56, 53, 56, 49, 49, 56, 52, 53, 49, 51]⟩) = natD (beN F4.r) := fig_lit (by decide +kernel) (by decide +kernel)
theorem fl4_2 : natD (figN ⟨#[52]⟩) = natD (beN F4.b) := fig_lit (by decide +kernel) (by decide +kernel)
theorem fl4_3 : natD (figN ⟨#[52]⟩) = natD (beN F4.ba) := fig_lit (by decide +kernel) (by decide +kernel)
theorem fl4_4 : natD (figN ⟨#[52]⟩) = natD (beN F4.bb) := fig_lit (by decide +kernel) (by decide +kernel)
theorem fl4_5 : natD (figN ⟨#[51, 54, 56, 53, 52, 49, 54, 55, 53, 51, 55, 49, 51, 51, 56, 55, 48, 49, 54, 55, 56, 49, 48, 56, 56, 51, 49, 53, 49, 56, 51, 48, 55, 55, 55, 53, 55, 57, 54, 49, 54, 50, 48, 55, 57, 53, 55, 56, 50, 53, 52, 54, 52, 48, 57, 56, 57, 52, 53, 55, 56, 51, 55, 56, 54, 56, 56, 54, 48, 55, 53, 57, 50, 51, 55, 56, 51, 55, 54, 51, 49, 56, 56, 51, 54, 48, 53, 52, 57, 52, 55, 54, 55, 54, 51, 52, 53, 56, 50, 49, 53, 52, 56, 49, 48, 52, 49, 56, 53, 52, 54, 52, 53, 48, 55]⟩) = natD (beN F4.x) := fig_lit (by decide +kernel) (by decide +kernel)
theorem fl4_6 : natD (figN ⟨#[49, 51, 51, 57, 53, 48, 54, 53, 52, 52, 57, 52, 52, 52, 55, 54, 52, 55, 51, 48, 50, 48, 52, 55, 49, 51, 55, 57, 57, 52, 49, 57, 50, 49, 50, 50, 49, 53, 56, 52, 57, 51, 51, 56, 55, 53, 57, 51, 56, 51, 52, 57, 54, 50, 48, 52, 50, 54, 53, 52, 51, 55, 51, 54, 52, 49, 54, 53, 49, 49, 52, 50, 51, 57, 53, 54, 51, 51, 51, 53, 48, 54, 52, 55, 50, 55, 50, 52, 54, 53, 53, 51, 53, 51, 51, 54, 54, 53, 51, 52, 57, 57, 50, 51, 57, 49, 55, 53, 54, 52, 52, 49, 53, 54, 57]⟩) = natD (beN F4.y) := fig_lit (by decide +kernel) (by decide +kernel)
theorem fl4_7 : natD (figN ⟨#[51, 53, 50, 55, 48, 49, 48, 54, 57, 53, 56, 55, 52, 54, 54, 54, 49, 56, 49, 56, 55, 49, 51, 57, 49, 49, 54, 48, 49, 49, 48, 54, 48, 49, 52, 52, 56, 57, 48, 48, 50, 57, 57, 53, 50, 55, 57, 50, 55, 55, 53, 50, 52, 48, 50, 49, 57, 57, 48, 56, 54, 52, 52, 50, 51, 57, 55, 57, 51, 55, 56, 53, 55, 51, 53, 55, 49, 53, 48, 50, 54, 56, 55, 51, 51, 52, 55, 54, 48, 48, 51, 52, 51, 56, 54, 53, 49, 55, 53, 57, 53, 50, 55, 54, 49, 57, 50, 54, 51, 48, 51, 49, 54, 48]⟩) = natD (beN F4.xa) := fig_lit (by decide +kernel) (by decide +kernel)
theorem fl4_8 : natD (figN ⟨#[51, 48, 53, 57, 49, 52, 52, 51, 52, 52, 50, 52, 52, 50, 49, 51, 55, 48, 57, 57, 55, 49, 50, 53, 57, 56, 49, 52, 55, 53, 51, 55, 56, 49, 54, 51, 54, 57, 56, 54, 52, 55, 48, 51, 50, 53, 52, 55, 54, 54, 52, 55, 53, 53, 56, 54, 53, 57, 51, 55, 51, 50, 48, 54, 50, 57, 49, 54, 51, 53, 51, 50, 52, 55, 54, 56, 57, 53, 56, 52, 51, 50, 52, 51, 51, 53, 48, 57, 53, 54, 51, 49, 48, 52, 51, 52, 55, 48, 49, 55, 56, 51, 55, 56, 56, 53, 55, 54, 51, 51, 54, 53, 55, 53, 56]⟩) = natD (beN F4.xb) := fig_lit (by decide +kernel) (by decide +kernel)
theorem fl4_9 : natD (figN ⟨#[49, 57, 56, 53, 49, 53, 48, 54, 48, 50, 50, 56, 55, 50, 57, 49, 57, 51, 53, 53, 54, 56, 48, 53, 52, 53, 50, 49, 49, 55, 55, 49, 55, 49, 54, 51, 56, 51, 48, 48, 56, 54, 56, 57, 55, 56, 50, 49, 53, 54, 53, 53, 55, 51, 48, 56, 53, 57, 51, 55, 56, 54, 54, 53, 48, 54, 54, 51, 52, 52, 55, 50, 54, 51, 55, 51, 56, 50, 51, 55, 49, 56, 52, 50, 51, 56, 54, 57, 49, 48, 52, 50, 54, 51, 51, 51, 51, 57, 56, 52, 54, 52, 49, 52, 57, 52, 51, 52, 48, 51, 52, 55, 57, 48, 53]⟩) = natD (beN F4.ya) := fig_lit (by decide +kernel) (by decide +kernel)
theorem fl4_10 : natD (figN ⟨#[57, 50, 55, 53, 53, 51, 54, 54, 53, 52, 57, 50, 51, 51, 50, 52, 53, 53, 55, 52, 55, 50, 48, 49, 57, 54, 53, 55, 55, 54, 48, 51, 55, 56, 56, 48, 55, 53, 55, 55, 52, 48, 49, 57, 51, 52, 53, 51, 53, 57, 50, 57, 55, 48, 48, 50, 53, 48, 50, 55, 57, 55, 56, 55, 57, 51, 57, 55, 54, 56, 55, 55, 48, 48, 50, 54, 55, 53, 53, 54, 52, 57, 56, 48, 57, 52, 57, 50, 56, 57, 55, 50, 55, 57, 53, 55, 53, 54, 53, 53, 55, 53, 52, 51, 51, 51, 52, 52, 50, 49, 57, 53, 56, 50]⟩) = natD (beN F4.yb) := fig_lit (by decide +kernel) (by decide +kernel)
theorem fm4 : [strD ⟨#[98, 114, 111, 97, 100]⟩, boolD true, natD (figN ⟨#[52, 48, 48, 50, 52, 48, 57, 53, 53, 53, 50, 50, 49, 54, 54, 55, 51, 57, 51, 52, 49, 55, 55, 56, 57, 56, 50, 53, 55, 51, 53, 57, 48, 52, 49, 53, 54, 53, 53, 54, 56, 56, 50, 56, 49, 57, 57, 51, 57, 48, 48, 55, 56, 56, 53, 51, 51, 50, 48, 53, 56, 49, 51, 54, 49, 50, 52, 48, 51, 49, 54, 53, 48, 52, 57, 48, 56, 51, 55, 56, 54, 52, 52, 52, 50, 54, 56, 55, 54, 50, 57, 49, 50, 57, 48, 49, 53, 54, 54, 52, 48, 51, 55, 56, 57, 52, 50, 55, 50, 53, 53, 57, 55, 56, 55]⟩), natD (figN ⟨#[53, 50, 52, 51, 53, 56, 55, 53, 49, 55, 53, 49, 50, 54, 49, 57, 48, 52, 55, 57, 52, 52, 55, 55, 52, 48, 53, 48, 56, 49, 56, 53, 57, 54, 53, 56, 51, 55, 54, 57, 48, 53, 53, 50, 53, 48, 48, 53, 50, 55, 54, 51, 55, 56, 50, 50, 54, 48, 51, 54, 53, 56, 54, 57, 57, 57, 51, 56, 53, 56, 49, 49, 56, 52, 53, 49, 51]⟩), natD (figN ⟨#[52]⟩), natD (figN ⟨#[52]⟩), natD (figN ⟨#[52]⟩), natD (figN ⟨#[51, 54, 56, 53, 52, 49, 54, 55, 53, 51, 55, 49, 51, 51, 56, 55, 48, 49, 54, 55, 56, 49, 48, 56, 56, 51, 49, 53, 49, 56, 51, 48, 55, 55, 55, 53, 55, 57, 54, 49, 54, 50, 48, 55, 57, 53, 55, 56, 50, 53, 52, 54, 52, 48, 57, 56, 57, 52, 53, 55, 56, 51, 55, 56, 54, 56, 56, 54, 48, 55, 53, 57, 50, 51, 55, 56, 51, 55, 54, 51, 49, 56, 56, 51, 54, 48, 53, 52, 57, 52, 55, 54, 55, 54, 51, 52, 53, 56, 50, 49, 53, 52, 56, 49, 48, 52, 49, 56, 53, 52, 54, 52, 53, 48, 55]⟩), natD (figN ⟨#[49, 51, 51, 57, 53, 48, 54, 53, 52, 52, 57, 52, 52, 52, 55, 54, 52, 55, 51, 48, 50, 48, 52, 55, 49, 51, 55, 57, 57, 52, 49, 57, 50, 49, 50, 50, 49, 53, 56, 52, 57, 51, 51, 56, 55, 53, 57, 51, 56, 51, 52, 57, 54, 50, 48, 52, 50, 54, 53, 52, 51, 55, 51, 54, 52, 49, 54, 53, 49, 49, 52, 50, 51, 57, 53, 54, 51, 51, 51, 53, 48, 54, 52, 55, 50, 55, 50, 52, 54, 53, 53, 51, 53, 51, 51, 54, 54, 53, 51, 52, 57, 57, 50, 51, 57, 49, 55, 53, 54, 52, 52, 49, 53, 54, 57]⟩), natD (figN ⟨#[51, 53, 50, 55, 48, 49, 48, 54, 57, 53, 56, 55, 52, 54, 54, 54, 49, 56, 49, 56, 55, 49, 51, 57, 49, 49, 54, 48, 49, 49, 48, 54, 48, 49, 52, 52, 56, 57, 48, 48, 50, 57, 57, 53, 50, 55, 57, 50, 55, 55, 53, 50, 52, 48, 50, 49, 57, 57, 48, 56, 54, 52, 52, 50, 51, 57, 55, 57, 51, 55, 56, 53, 55, 51, 53, 55, 49, 53, 48, 50, 54, 56, 55, 51, 51, 52, 55, 54, 48, 48, 51, 52, 51, 56, 54, 53, 49, 55, 53, 57, 53, 50, 55, 54, 49, 57, 50, 54, 51, 48, 51, 49, 54, 48]⟩), natD (figN ⟨#[51, 48, 53, 57, 49, 52, 52, 51, 52, 52, 50, 52, 52, 50, 49, 51, 55, 48, 57, 57, 55, 49, 50, 53, 57, 56, 49, 52, 55, 53, 51, 55, 56, 49, 54, 51, 54, 57, 56, 54, 52, 55, 48, 51, 50, 53, 52, 55, 54, 54, 52, 55, 53, 53, 56, 54, 53, 57, 51, 55, 51, 50, 48, 54, 50, 57, 49, 54, 51, 53, 51, 50, 52, 55, 54, 56, 57, 53, 56, 52, 51, 50, 52, 51, 51, 53, 48, 57, 53, 54, 51, 49, 48, 52, 51, 52, 55, 48, 49, 55, 56, 51, 55, 56, 56, 53, 55, 54, 51, 51, 54, 53, 55, 53, 56]⟩), natD (figN ⟨#[49, 57, 56, 53, 49, 53, 48, 54, 48, 50, 50, 56, 55, 50, 57, 49, 57, 51, 53, 53, 54, 56, 48, 53, 52, 53, 50, 49, 49, 55, 55, 49, 55, 49, 54, 51, 56, 51, 48, 48, 56, 54, 56, 57, 55, 56, 50, 49, 53, 54, 53, 53, 55, 51, 48, 56, 53, 57, 51, 55, 56, 54, 54, 53, 48, 54, 54, 51, 52, 52, 55, 50, 54, 51, 55, 51, 56, 50, 51, 55, 49, 56, 52, 50, 51, 56, 54, 57, 49, 48, 52, 50, 54, 51, 51, 51, 51, 57, 56, 52, 54, 52, 49, 52, 57, 52, 51, 52, 48, 51, 52, 55, 57, 48, 53]⟩), natD (figN ⟨#[57, 50, 55, 53, 53, 51, 54, 54, 53, 52, 57, 50, 51, 51, 50, 52, 53, 53, 55, 52, 55, 50, 48, 49, 57, 54, 53, 55, 55, 54, 48, 51, 55, 56, 56, 48, 55, 53, 55, 55, 52, 48, 49, 57, 51, 52, 53, 51, 53, 57, 50, 57, 55, 48, 48, 50, 53, 48, 50, 55, 57, 55, 56, 55, 57, 51, 57, 55, 54, 56, 55, 55, 48, 48, 50, 54, 55, 53, 53, 54, 52, 57, 56, 48, 57, 52, 57, 50, 56, 57, 55, 50, 55, 57, 53, 55, 53, 54, 53, 53, 55, 53, 52, 51, 51, 51, 52, 52, 50, 49, 57, 53, 56, 50]⟩)] = fmD F4 := by
  unfold fmD
  rw [fl4_0, fl4_1, fl4_2, fl4_5, fl4_6, fl4_7, fl4_8, fl4_9, fl4_10]
  rfl

theorem cv_1 {id : Int} (h : id = 1) : cvF id = F1 := by unfold cvF; rw [if_pos h]
theorem cv_2 {id : Int} (h1 : ¬ id = 1) (h : id = 2) : cvF id = F2 := by unfold cvF; rw [if_neg h1, if_pos h]
theorem cv_3 {id : Int} (h1 : ¬ id = 1) (h2 : ¬ id = 2) (h : id = 3) : cvF id = F3 := by unfold cvF; rw [if_neg h1, if_neg h2, if_pos h]
theorem cv_4 {id : Int} (h1 : ¬ id = 1) (h2 : ¬ id = 2) (h : ¬ id = 3) : cvF id = F4 := by unfold cvF; rw [if_neg h1, if_neg h2, if_neg h]

set_option maxRecDepth 100000 in
theorem curve_c {id : Int} : AC Try.prog 68 [intD id] (fun d => d = .ag (fmD (cvF id))) := by
  refine AC.intro Try.func68 Try.ntmps68 Try.results68 rfl (by simp) (fun w0 T => ?_)
  refine AW.seq ?_
  refine AW.region ?_
  refine AO.alloc rfl rfl (ze rfl) ?_
  refine AO.nil ?_
  refine AW.seq ?_
  refine AW.seq ?_
  refine AW.region ?_
  refine AO.xs rfl rfl rfl (XS.move rfl) ?_
  refine AO.nil ?_
  refine AW.block ?_
  refine AW.seq ?_
  refine AW.region ?_
  refine AO.xs rfl rfl rfl (XS.int rfl rfl rfl) ?_
  refine AO.xs rfl rfl rfl (XS.assign rfl) ?_
  refine AO.nil ?_
  refine AW.cond rfl (fun hb1 => ?_) (fun hb1 => ?_)
  · skip
    replace hb1 := eq_of_beq hb1
    refine AW.seq ?_
    refine AW.region ?_
    refine AO.xs rfl rfl rfl (XS.buildSlice (ap rfl) rfl rfl rfl (by decide)) ?_
    refine AO.xs rfl rfl rfl (XS.call rfl (by kernel_rfl) rfl (formOf_c (all_small (by decide +kernel)))) ?_
    refine AO.store rfl rfl rfl rfl (sz rfl) rfl rfl rfl rfl ?_
    refine AO.nil ?_
    refine AW.ret ?_
    exact ⟨_, rfl, show Dv.ag _ = Dv.ag (fmD (cvF id)) by rw [cv_1 hb1]; exact congrArg Dv.ag fm1⟩
  · skip
    replace hb1 := ne_of_beq_false hb1
    refine AW.seq ?_
    refine AW.region ?_
    refine AO.xs rfl rfl rfl (XS.int rfl rfl rfl) ?_
    refine AO.xs rfl rfl rfl (XS.assign rfl) ?_
    refine AO.nil ?_
    refine AW.cond rfl (fun hb2 => ?_) (fun hb2 => ?_)
    · skip
      replace hb2 := eq_of_beq hb2
      refine AW.seq ?_
      refine AW.region ?_
      refine AO.xs rfl rfl rfl (XS.buildSlice (ap rfl) rfl rfl rfl (by decide)) ?_
      refine AO.xs rfl rfl rfl (XS.call rfl (by kernel_rfl) rfl (formOf_c (all_small (by decide +kernel)))) ?_
      refine AO.store rfl rfl rfl rfl (sz rfl) rfl rfl rfl rfl ?_
      refine AO.nil ?_
      refine AW.ret ?_
      exact ⟨_, rfl, show Dv.ag _ = Dv.ag (fmD (cvF id)) by rw [cv_2 hb1 hb2]; exact congrArg Dv.ag fm2⟩
    · skip
      replace hb2 := ne_of_beq_false hb2
      refine AW.seq ?_
      refine AW.region ?_
      refine AO.xs rfl rfl rfl (XS.int rfl rfl rfl) ?_
      refine AO.xs rfl rfl rfl (XS.assign rfl) ?_
      refine AO.nil ?_
      refine AW.cond rfl (fun hb3 => ?_) (fun hb3 => ?_)
      · skip
        replace hb3 := eq_of_beq hb3
        refine AW.seq ?_
        refine AW.region ?_
        refine AO.xs rfl rfl rfl (XS.buildSlice (ap rfl) rfl rfl rfl (by decide)) ?_
        refine AO.xs rfl rfl rfl (XS.call rfl (by kernel_rfl) rfl (formOf_c (all_small (by decide +kernel)))) ?_
        refine AO.store rfl rfl rfl rfl (sz rfl) rfl rfl rfl rfl ?_
        refine AO.nil ?_
        refine AW.ret ?_
        exact ⟨_, rfl, show Dv.ag _ = Dv.ag (fmD (cvF id)) by rw [cv_3 hb1 hb2 hb3]; exact congrArg Dv.ag fm3⟩
      · skip
        replace hb3 := ne_of_beq_false hb3
        refine AW.skip ?_
        refine AW.seq ?_
        refine AW.region ?_
        refine AO.xs rfl rfl rfl (XS.buildSlice (ap rfl) rfl rfl rfl (by decide)) ?_
        refine AO.xs rfl rfl rfl (XS.call rfl (by kernel_rfl) rfl (formOf_c (all_small (by decide +kernel)))) ?_
        refine AO.store rfl rfl rfl rfl (sz rfl) rfl rfl rfl rfl ?_
        refine AO.nil ?_
        refine AW.ret ?_
        exact ⟨_, rfl, show Dv.ag _ = Dv.ag (fmD (cvF id)) by rw [cv_4 hb1 hb2 hb3]; exact congrArg Dv.ag fm4⟩

set_option maxRecDepth 100000 in
theorem sizeF_c {id : Int} : AC Try.prog 78 [.ag (fmD (cvF id))] (fun d => d = intD (((cvF id).p.size : Nat) : Int)) := by
  refine AC.intro Try.func78 Try.ntmps78 Try.results78 rfl (by simp) (fun w0 T => ?_)
  have ho := cvF_ok id
  have n1 := nl64_size (cvF id).p
  have n2 := nl8 (beN (cvF id).p)
  have n3 := size_nl ho.cp
  have n4 := ho.lp
  refine AW.seq ?_
  refine AW.region ?_
  refine AO.box rfl rfl rfl rfl ?_
  refine AO.xs rfl rfl rfl (XS.assign rfl) ?_
  refine AO.nil ?_
  refine AW.seq ?_
  refine AW.region ?_
  refine AO.xs rfl rfl rfl (XS.field rfl (fo rfl)) ?_
  refine AO.xs rfl rfl rfl (XS.load rfl (on rfl) rfl rfl) ?_
  refine AO.xs rfl rfl rfl (XS.call rfl (by kernel_rfl) rfl (size_c (by omega))) ?_
  refine AO.xs rfl rfl rfl (XS.addN (n := 7) rfl rfl (by omega)) ?_
  refine AO.xs rfl rfl rfl (XS.quoI (n := 8) rfl rfl (by omega) (by omega)) ?_
  refine AO.xs rfl rfl rfl (XS.assign rfl) ?_
  refine AO.nil ?_
  refine AW.ret ?_
  exact ⟨_, rfl, intEq (by omega)⟩

set_option maxRecDepth 100000 in
theorem scalarF_c {id : Int} : AC Try.prog 79 [.ag (fmD (cvF id))] (fun d => d = intD (((cvF id).r.size : Nat) : Int)) := by
  refine AC.intro Try.func79 Try.ntmps79 Try.results79 rfl (by simp) (fun w0 T => ?_)
  have ho := cvF_ok id
  have n1 := nl64_size (cvF id).r
  have n2 := nl8 (beN (cvF id).r)
  have n3 := size_nl ho.cr
  have n4 := ho.lr
  refine AW.seq ?_
  refine AW.region ?_
  refine AO.box rfl rfl rfl rfl ?_
  refine AO.xs rfl rfl rfl (XS.assign rfl) ?_
  refine AO.nil ?_
  refine AW.seq ?_
  refine AW.region ?_
  refine AO.xs rfl rfl rfl (XS.field rfl (fo rfl)) ?_
  refine AO.xs rfl rfl rfl (XS.load rfl (on rfl) rfl rfl) ?_
  refine AO.xs rfl rfl rfl (XS.call rfl (by kernel_rfl) rfl (size_c (by omega))) ?_
  refine AO.xs rfl rfl rfl (XS.addN (n := 7) rfl rfl (by omega)) ?_
  refine AO.xs rfl rfl rfl (XS.quoI (n := 8) rfl rfl (by omega) (by omega)) ?_
  refine AO.xs rfl rfl rfl (XS.assign rfl) ?_
  refine AO.nil ?_
  refine AW.ret ?_
  exact ⟨_, rfl, intEq (by omega)⟩


structure Crv where
  nm : ByteArray
  p : ByteArray
  r : ByteArray
  b : ByteArray
  ba : ByteArray
  bb : ByteArray
  sz : Int
  sc : Int
  br : Bool
def Crv.cs (c : Crv) : List Dv := [strD c.nm, strD c.p, strD c.r, strD c.b, strD c.ba, strD c.bb, intD c.sz, intD c.sc, boolD c.br]
def crvF (f : Fm) : Crv := ⟨f.nm, f.p, f.r, f.b, f.ba, f.bb, f.p.size, f.r.size, f.br⟩
def crv0 : Crv := ⟨⟨#[]⟩, ⟨#[]⟩, ⟨#[]⟩, ⟨#[]⟩, ⟨#[]⟩, ⟨#[]⟩, 0, 0, false⟩
noncomputable def crvOf (id : Int) : Crv := @ite _ (isCv id) (Classical.propDecidable _) (crvF (cvF id)) crv0
theorem crvOf_yes {id : Int} (h : isCv id) : crvOf id = (crvF (cvF id)) := @if_pos _ (Classical.propDecidable _) h _ _ _
theorem crvOf_no {id : Int} (h : ¬ isCv id) : crvOf id = crv0 := @if_neg _ (Classical.propDecidable _) h _ _ _
theorem Crv.ext_iff {p q : Crv} : p = q ↔ p.nm = q.nm ∧ p.p = q.p ∧ p.r = q.r ∧ p.b = q.b ∧ (⟨p.ba, p.bb⟩ : Pr) = ⟨q.ba, q.bb⟩ ∧ p.sz = q.sz ∧ p.sc = q.sc ∧ p.br = q.br := by
  constructor
  · rintro rfl; simp
  · rintro ⟨h1, h2, h3, h4, h5, h6, h7, h8⟩
    cases p; cases q
    simp only [Pr.mk.injEq] at h5
    simp_all
theorem great48 {s : ByteArray} (h1 : canon s) (h2 : s.size ≤ 48) : nl 18446744073709551616 (beN s) ≤ 48 ∧ beN s < P160 := ⟨Nat.le_trans (nl64_size s) h2, beN_great (great_of h1 h2)⟩
theorem crv_eq (id : Int) (h : isCv id) : Dv.ag [strD (cvF id).nm, strD (strN (beN (cvF id).p)), strD (strN (beN (cvF id).r)), strD (strN (beN (cvF id).b)), strD (strN (beN (cvF id).ba)), strD (strN (beN (cvF id).bb)), intD (((cvF id).p.size : Nat) : Int), intD (((cvF id).r.size : Nat) : Int), boolD (cvF id).br] = .ag (crvOf id).cs := by
  have ho := cvF_ok id
  rw [crvOf_yes h, strN_beN ho.cp, strN_beN ho.cr, strN_beN ho.cb, strN_beN ho.cba, strN_beN ho.cbb]; rfl
theorem tu2 {a b : Dv} {x y : Dv} (h1 : a = x) (h2 : b = y) : Dv.tu [a, b] = .tu [x, y] := by rw [h1, h2]

set_option maxRecDepth 100000 in
theorem curveOfI_c {id : Int} : AC Try.prog 32 [intD id] (fun d => d = .tu [.ag (crvOf id).cs, boolD (eqP (isCv id))]) := by
  refine AC.intro Try.func32 Try.ntmps32 Try.results32 rfl (by simp) (fun w0 T => ?_)
  have ho := cvF_ok id
  have n1 := (great48 ho.cp ho.lp).1
  have n2 := (great48 ho.cr ho.lr).1
  have n3 := (great48 ho.cb ho.lb).1
  refine AW.seq ?_
  refine AW.region ?_
  refine AO.alloc rfl rfl (ze rfl) ?_
  refine AO.xs rfl rfl rfl (XS.assign rfl) ?_
  refine AO.nil ?_
  refine AW.seq ?_
  refine AW.seq ?_
  refine AW.region ?_
  refine AO.xs rfl rfl rfl (XS.move rfl) ?_
  refine AO.xs rfl rfl rfl (XS.call rfl (by kernel_rfl) rfl isCurve_c) ?_
  refine AO.xs rfl rfl rfl (XS.not rfl) ?_
  refine AO.nil ?_
  refine AW.cond rfl (fun hb1 => ?_) (fun hb1 => ?_)
  · skip
    replace hb1 := eqP_false.1 (notT hb1)
    refine AW.seq ?_
    refine AW.region ?_
    refine AO.xs rfl rfl rfl (XS.build (ze rfl) (pl rfl) rfl rfl) ?_
    refine AO.store rfl rfl rfl rfl (sz rfl) rfl rfl rfl rfl ?_
    refine AO.xs rfl rfl rfl (XS.assign rfl) ?_
    refine AO.nil ?_
    refine AW.ret ?_
    exact ⟨_, rfl, tu2 (by rw [crvOf_no hb1]; rfl) (congrArg boolD (eqP_no hb1).symm)⟩
  · skip
    replace hb1 := eqP_iff.1 (notF hb1)
    refine AW.skip ?_
    refine AW.seq ?_
    refine AW.region ?_
    refine AO.xs rfl rfl rfl (XS.move rfl) ?_
    refine AO.xs rfl rfl rfl (XS.call rfl (by kernel_rfl) rfl curve_c) ?_
    refine AO.alloc rfl rfl (ze rfl) ?_
    refine AO.store rfl rfl rfl rfl (sz rfl) rfl rfl rfl rfl ?_
    refine AO.nil ?_
    refine AW.seq ?_
    refine AW.drawn mix ?_
    refine DC.cons rfl rfl rfl (XS.field rfl (fo rfl)) ?_
    refine DC.cons rfl rfl rfl (XS.load rfl (on rfl) rfl rfl) ?_
    refine DC.cons rfl rfl rfl (XS.field rfl (fo rfl)) ?_
    refine DC.cons rfl rfl rfl (XS.load rfl (on rfl) rfl rfl) ?_
    refine DC.cons rfl rfl rfl (XS.call rfl (by kernel_rfl) rfl (text_c (by omega))) ?_
    refine DC.cons rfl rfl rfl (XS.field rfl (fo rfl)) ?_
    refine DC.cons rfl rfl rfl (XS.load rfl (on rfl) rfl rfl) ?_
    refine DC.cons rfl rfl rfl (XS.call rfl (by kernel_rfl) rfl (text_c (by omega))) ?_
    refine DC.cons rfl rfl rfl (XS.field rfl (fo rfl)) ?_
    refine DC.cons rfl rfl rfl (XS.load rfl (on rfl) rfl rfl) ?_
    refine DC.cons rfl rfl rfl (XS.call rfl (by kernel_rfl) rfl (text_c (by omega))) ?_
    refine DC.cons rfl rfl rfl (XS.field rfl (fo rfl)) ?_
    refine DC.cons rfl rfl rfl (XS.loadA rfl (ro rfl) (sz rfl) rfl (Nat.le_of_ble_eq_true rfl)) ?_
    refine DC.cons rfl rfl rfl (XS.call rfl (by kernel_rfl) rfl (told_c (great48 ho.cba ho.lba).2 (great48 ho.cbb ho.lbb).2)) ?_
    refine DC.cons rfl rfl rfl (XS.loadA rfl (ro rfl) (sz rfl) rfl (Nat.le_of_ble_eq_true rfl)) ?_
    refine DC.cons rfl rfl rfl (XS.call rfl (by kernel_rfl) rfl sizeF_c) ?_
    refine DC.cons rfl rfl rfl (XS.loadA rfl (ro rfl) (sz rfl) rfl (Nat.le_of_ble_eq_true rfl)) ?_
    refine DC.cons rfl rfl rfl (XS.call rfl (by kernel_rfl) rfl scalarF_c) ?_
    refine DC.cons rfl rfl rfl (XS.field rfl (fo rfl)) ?_
    refine DC.cons rfl rfl rfl (XS.load rfl (on rfl) rfl rfl) ?_
    refine DC.cons rfl rfl rfl (XS.build (ze rfl) (pl rfl) rfl rfl) ?_
    refine DC.done (by kernel_rfl) ?_
    refine AO.store rfl rfl rfl rfl (sz rfl) rfl rfl rfl rfl ?_
    refine AO.xs rfl rfl rfl (XS.assign rfl) ?_
    refine AO.nil ?_
    refine AW.ret ?_
    exact ⟨_, rfl, tu2 (crv_eq id hb1) (congrArg boolD (eqP_yes hb1).symm)⟩

set_option maxRecDepth 100000 in
theorem l09Curve_c {id : Int} : AC Try.prog 75 [intD id] (fun d => d = .ag (crvOf id).cs) := by
  refine AC.intro Try.func75 Try.ntmps75 Try.results75 rfl (by simp) (fun w0 T => ?_)
  refine AW.seq ?_
  refine AW.region ?_
  refine AO.alloc rfl rfl (ze rfl) ?_
  refine AO.nil ?_
  refine AW.seq ?_
  refine AW.seq ?_
  refine AW.region ?_
  refine AO.xs rfl rfl rfl (XS.move rfl) ?_
  refine AO.nil ?_
  refine AW.block ?_
  refine AW.seq ?_
  refine AW.region ?_
  refine AO.xs rfl rfl rfl (XS.int rfl rfl rfl) ?_
  refine AO.xs rfl rfl rfl (XS.assign rfl) ?_
  refine AO.nil ?_
  refine AW.cond rfl (fun hb1 => ?_) (fun hb1 => ?_)
  · skip
    replace hb1 := eq_of_beq hb1
    refine AW.seq ?_
    refine AW.region ?_
    refine AO.xs rfl rfl rfl (XS.build (ze rfl) (pl rfl) rfl rfl) ?_
    refine AO.xs rfl rfl rfl (XS.build (ze rfl) (pl rfl) rfl rfl) ?_
    refine AO.store rfl rfl rfl rfl (sz rfl) rfl rfl rfl rfl ?_
    refine AO.nil ?_
    refine AW.ret ?_
    exact ⟨_, rfl, by rw [crvOf_yes (show isCv id by unfold isCv; omega), cv_1 hb1]; rfl⟩
  · skip
    replace hb1 := ne_of_beq_false hb1
    refine AW.seq ?_
    refine AW.region ?_
    refine AO.xs rfl rfl rfl (XS.int rfl rfl rfl) ?_
    refine AO.xs rfl rfl rfl (XS.assign rfl) ?_
    refine AO.nil ?_
    refine AW.cond rfl (fun hb2 => ?_) (fun hb2 => ?_)
    · skip
      replace hb2 := eq_of_beq hb2
      refine AW.seq ?_
      refine AW.region ?_
      refine AO.xs rfl rfl rfl (XS.build (ze rfl) (pl rfl) rfl rfl) ?_
      refine AO.xs rfl rfl rfl (XS.build (ze rfl) (pl rfl) rfl rfl) ?_
      refine AO.store rfl rfl rfl rfl (sz rfl) rfl rfl rfl rfl ?_
      refine AO.nil ?_
      refine AW.ret ?_
      exact ⟨_, rfl, by rw [crvOf_yes (show isCv id by unfold isCv; omega), cv_2 hb1 hb2]; rfl⟩
    · skip
      replace hb2 := ne_of_beq_false hb2
      refine AW.seq ?_
      refine AW.region ?_
      refine AO.xs rfl rfl rfl (XS.int rfl rfl rfl) ?_
      refine AO.xs rfl rfl rfl (XS.assign rfl) ?_
      refine AO.nil ?_
      refine AW.cond rfl (fun hb3 => ?_) (fun hb3 => ?_)
      · skip
        replace hb3 := eq_of_beq hb3
        refine AW.seq ?_
        refine AW.region ?_
        refine AO.xs rfl rfl rfl (XS.build (ze rfl) (pl rfl) rfl rfl) ?_
        refine AO.xs rfl rfl rfl (XS.build (ze rfl) (pl rfl) rfl rfl) ?_
        refine AO.store rfl rfl rfl rfl (sz rfl) rfl rfl rfl rfl ?_
        refine AO.nil ?_
        refine AW.ret ?_
        exact ⟨_, rfl, by rw [crvOf_yes (show isCv id by unfold isCv; omega), cv_3 hb1 hb2 hb3]; rfl⟩
      · skip
        replace hb3 := ne_of_beq_false hb3
        refine AW.seq ?_
        refine AW.region ?_
        refine AO.xs rfl rfl rfl (XS.int rfl rfl rfl) ?_
        refine AO.xs rfl rfl rfl (XS.assign rfl) ?_
        refine AO.nil ?_
        refine AW.cond rfl (fun hb4 => ?_) (fun hb4 => ?_)
        · skip
          replace hb4 := eq_of_beq hb4
          refine AW.seq ?_
          refine AW.region ?_
          refine AO.xs rfl rfl rfl (XS.build (ze rfl) (pl rfl) rfl rfl) ?_
          refine AO.xs rfl rfl rfl (XS.build (ze rfl) (pl rfl) rfl rfl) ?_
          refine AO.store rfl rfl rfl rfl (sz rfl) rfl rfl rfl rfl ?_
          refine AO.nil ?_
          refine AW.ret ?_
          exact ⟨_, rfl, by rw [crvOf_yes (show isCv id by unfold isCv; omega), cv_4 hb1 hb2 hb3]; rfl⟩
        · skip
          replace hb4 := ne_of_beq_false hb4
          refine AW.skip ?_
          refine AW.seq ?_
          refine AW.region ?_
          refine AO.xs rfl rfl rfl (XS.build (ze rfl) (pl rfl) rfl rfl) ?_
          refine AO.store rfl rfl rfl rfl (sz rfl) rfl rfl rfl rfl ?_
          refine AO.nil ?_
          refine AW.ret ?_
          exact ⟨_, rfl, by rw [crvOf_no (show ¬ isCv id by unfold isCv; omega)]; rfl⟩

set_option maxRecDepth 100000 in
theorem curveOfS_c {id : Int} : AC Try.prog 31 [intD id] (fun d => d = .tu [.ag (crvOf id).cs, boolD (eqP (isCv id))]) := by
  refine AC.intro Try.func31 Try.ntmps31 Try.results31 rfl (by simp) (fun w0 T => ?_)
  refine AW.seq ?_
  refine AW.region ?_
  refine AO.alloc rfl rfl (ze rfl) ?_
  refine AO.xs rfl rfl rfl (XS.assign rfl) ?_
  refine AO.nil ?_
  refine AW.seq ?_
  refine AW.region ?_
  refine AO.xs rfl rfl rfl (XS.move rfl) ?_
  refine AO.xs rfl rfl rfl (XS.call rfl (by kernel_rfl) rfl l09Curve_c) ?_
  refine AO.xs rfl rfl rfl (XS.move rfl) ?_
  refine AO.xs rfl rfl rfl (XS.call rfl (by kernel_rfl) rfl l01In_c) ?_
  refine AO.store rfl rfl rfl rfl (sz rfl) rfl rfl rfl rfl ?_
  refine AO.xs rfl rfl rfl (XS.assign rfl) ?_
  refine AO.nil ?_
  refine AW.ret ?_
  exact ⟨_, rfl, rfl⟩

set_option maxRecDepth 100000 in
theorem eqCurve_c {p q : Crv} : AC Try.prog 33 [.ag p.cs, .ag q.cs] (fun d => d = boolD (eqP (p = q))) := by
  refine AC.intro Try.func33 Try.ntmps33 Try.results33 rfl (by simp) (fun w0 T => ?_)
  refine AW.seq ?_
  refine AW.region ?_
  refine AO.box rfl rfl rfl rfl ?_
  refine AO.box rfl rfl rfl rfl ?_
  refine AO.xs rfl rfl rfl (XS.assign rfl) ?_
  refine AO.nil ?_
  refine AW.seq ?_
  refine AW.seq ?_
  refine AW.region ?_
  refine AO.xs rfl rfl rfl (XS.field rfl (fo rfl)) ?_
  refine AO.xs rfl rfl rfl (XS.load rfl (on rfl) rfl rfl) ?_
  refine AO.xs rfl rfl rfl (XS.field rfl (fo rfl)) ?_
  refine AO.xs rfl rfl rfl (XS.load rfl (on rfl) rfl rfl) ?_
  refine AO.xs rfl rfl rfl (XS.strNe rfl rfl) ?_
  refine AO.nil ?_
  refine AW.cond rfl (fun hb1 => ?_) (fun hb1 => ?_)
  · skip
    replace hb1 := eqP_iff.1 hb1
    refine AW.seq ?_
    refine AW.region ?_
    refine AO.xs rfl rfl rfl (XS.assign rfl) ?_
    refine AO.nil ?_
    refine AW.ret ?_
    exact ⟨_, rfl, congrArg boolD (eqP_no (fun e => hb1 (by rw [e]))).symm⟩
  · skip
    replace hb1 := eqP_false.1 hb1
    refine AW.skip ?_
    refine AW.seq ?_
    refine AW.seq ?_
    refine AW.region ?_
    refine AO.xs rfl rfl rfl (XS.field rfl (fo rfl)) ?_
    refine AO.xs rfl rfl rfl (XS.load rfl (on rfl) rfl rfl) ?_
    refine AO.xs rfl rfl rfl (XS.field rfl (fo rfl)) ?_
    refine AO.xs rfl rfl rfl (XS.load rfl (on rfl) rfl rfl) ?_
    refine AO.xs rfl rfl rfl (XS.strNe rfl rfl) ?_
    refine AO.nil ?_
    refine AW.cond rfl (fun hb2 => ?_) (fun hb2 => ?_)
    · skip
      replace hb2 := eqP_iff.1 hb2
      refine AW.seq ?_
      refine AW.region ?_
      refine AO.xs rfl rfl rfl (XS.assign rfl) ?_
      refine AO.nil ?_
      refine AW.ret ?_
      exact ⟨_, rfl, congrArg boolD (eqP_no (fun e => hb2 (by rw [e]))).symm⟩
    · skip
      replace hb2 := eqP_false.1 hb2
      refine AW.skip ?_
      refine AW.seq ?_
      refine AW.seq ?_
      refine AW.region ?_
      refine AO.xs rfl rfl rfl (XS.field rfl (fo rfl)) ?_
      refine AO.xs rfl rfl rfl (XS.load rfl (on rfl) rfl rfl) ?_
      refine AO.xs rfl rfl rfl (XS.field rfl (fo rfl)) ?_
      refine AO.xs rfl rfl rfl (XS.load rfl (on rfl) rfl rfl) ?_
      refine AO.xs rfl rfl rfl (XS.strNe rfl rfl) ?_
      refine AO.nil ?_
      refine AW.cond rfl (fun hb3 => ?_) (fun hb3 => ?_)
      · skip
        replace hb3 := eqP_iff.1 hb3
        refine AW.seq ?_
        refine AW.region ?_
        refine AO.xs rfl rfl rfl (XS.assign rfl) ?_
        refine AO.nil ?_
        refine AW.ret ?_
        exact ⟨_, rfl, congrArg boolD (eqP_no (fun e => hb3 (by rw [e]))).symm⟩
      · skip
        replace hb3 := eqP_false.1 hb3
        refine AW.skip ?_
        refine AW.seq ?_
        refine AW.seq ?_
        refine AW.region ?_
        refine AO.xs rfl rfl rfl (XS.field rfl (fo rfl)) ?_
        refine AO.xs rfl rfl rfl (XS.load rfl (on rfl) rfl rfl) ?_
        refine AO.xs rfl rfl rfl (XS.field rfl (fo rfl)) ?_
        refine AO.xs rfl rfl rfl (XS.load rfl (on rfl) rfl rfl) ?_
        refine AO.xs rfl rfl rfl (XS.strNe rfl rfl) ?_
        refine AO.nil ?_
        refine AW.cond rfl (fun hb4 => ?_) (fun hb4 => ?_)
        · skip
          replace hb4 := eqP_iff.1 hb4
          refine AW.seq ?_
          refine AW.region ?_
          refine AO.xs rfl rfl rfl (XS.assign rfl) ?_
          refine AO.nil ?_
          refine AW.ret ?_
          exact ⟨_, rfl, congrArg boolD (eqP_no (fun e => hb4 (by rw [e]))).symm⟩
        · skip
          replace hb4 := eqP_false.1 hb4
          refine AW.skip ?_
          refine AW.seq ?_
          refine AW.seq ?_
          refine AW.region ?_
          refine AO.xs rfl rfl rfl (XS.field rfl (fo rfl)) ?_
          refine AO.xs rfl rfl rfl (XS.loadA rfl (ro rfl) (sz rfl) rfl (Nat.le_of_ble_eq_true rfl)) ?_
          refine AO.xs rfl rfl rfl (XS.field rfl (fo rfl)) ?_
          refine AO.xs rfl rfl rfl (XS.loadA rfl (ro rfl) (sz rfl) rfl (Nat.le_of_ble_eq_true rfl)) ?_
          refine AO.xs rfl rfl rfl (XS.call rfl (by kernel_rfl) rfl (eqPair_c (p := ⟨p.ba, p.bb⟩) (q := ⟨q.ba, q.bb⟩))) ?_
          refine AO.xs rfl rfl rfl (XS.not rfl) ?_
          refine AO.nil ?_
          refine AW.cond rfl (fun hb5 => ?_) (fun hb5 => ?_)
          · skip
            replace hb5 := eqP_false.1 (notT hb5)
            refine AW.seq ?_
            refine AW.region ?_
            refine AO.xs rfl rfl rfl (XS.assign rfl) ?_
            refine AO.nil ?_
            refine AW.ret ?_
            exact ⟨_, rfl, congrArg boolD (eqP_no (fun e => hb5 (by rw [e]))).symm⟩
          · skip
            replace hb5 := eqP_iff.1 (notF hb5)
            refine AW.skip ?_
            refine AW.seq ?_
            refine AW.seq ?_
            refine AW.region ?_
            refine AO.xs rfl rfl rfl (XS.field rfl (fo rfl)) ?_
            refine AO.xs rfl rfl rfl (XS.load rfl (on rfl) rfl rfl) ?_
            refine AO.xs rfl rfl rfl (XS.field rfl (fo rfl)) ?_
            refine AO.xs rfl rfl rfl (XS.load rfl (on rfl) rfl rfl) ?_
            refine AO.xs rfl rfl rfl (XS.int rfl rfl rfl) ?_
            refine AO.nil ?_
            refine AW.cond rfl (fun hb6 => ?_) (fun hb6 => ?_)
            · skip
              replace hb6 := bne_iff_ne.1 hb6
              refine AW.seq ?_
              refine AW.region ?_
              refine AO.xs rfl rfl rfl (XS.assign rfl) ?_
              refine AO.nil ?_
              refine AW.ret ?_
              exact ⟨_, rfl, congrArg boolD (eqP_no (fun e => hb6 (by rw [e]))).symm⟩
            · skip
              replace hb6 := bne_eq_false_iff_eq.1 hb6
              refine AW.skip ?_
              refine AW.seq ?_
              refine AW.seq ?_
              refine AW.region ?_
              refine AO.xs rfl rfl rfl (XS.field rfl (fo rfl)) ?_
              refine AO.xs rfl rfl rfl (XS.load rfl (on rfl) rfl rfl) ?_
              refine AO.xs rfl rfl rfl (XS.field rfl (fo rfl)) ?_
              refine AO.xs rfl rfl rfl (XS.load rfl (on rfl) rfl rfl) ?_
              refine AO.xs rfl rfl rfl (XS.int rfl rfl rfl) ?_
              refine AO.nil ?_
              refine AW.cond rfl (fun hb7 => ?_) (fun hb7 => ?_)
              · skip
                replace hb7 := bne_iff_ne.1 hb7
                refine AW.seq ?_
                refine AW.region ?_
                refine AO.xs rfl rfl rfl (XS.assign rfl) ?_
                refine AO.nil ?_
                refine AW.ret ?_
                exact ⟨_, rfl, congrArg boolD (eqP_no (fun e => hb7 (by rw [e]))).symm⟩
              · skip
                replace hb7 := bne_eq_false_iff_eq.1 hb7
                refine AW.skip ?_
                refine AW.seq ?_
                refine AW.seq ?_
                refine AW.region ?_
                refine AO.xs rfl rfl rfl (XS.field rfl (fo rfl)) ?_
                refine AO.xs rfl rfl rfl (XS.load rfl (on rfl) rfl rfl) ?_
                refine AO.xs rfl rfl rfl (XS.field rfl (fo rfl)) ?_
                refine AO.xs rfl rfl rfl (XS.load rfl (on rfl) rfl rfl) ?_
                refine AO.xs rfl rfl rfl (XS.boolNe rfl rfl (bo rfl)) ?_
                refine AO.nil ?_
                refine AW.cond rfl (fun hb8 => ?_) (fun hb8 => ?_)
                · skip
                  replace hb8 := bne_iff_ne.1 hb8
                  refine AW.seq ?_
                  refine AW.region ?_
                  refine AO.xs rfl rfl rfl (XS.assign rfl) ?_
                  refine AO.nil ?_
                  refine AW.ret ?_
                  exact ⟨_, rfl, congrArg boolD (eqP_no (fun e => hb8 (by rw [e]))).symm⟩
                · skip
                  replace hb8 := bne_eq_false_iff_eq.1 hb8
                  refine AW.skip ?_
                  refine AW.seq ?_
                  refine AW.region ?_
                  refine AO.xs rfl rfl rfl (XS.assign rfl) ?_
                  refine AO.nil ?_
                  refine AW.ret ?_
                  exact ⟨_, rfl, congrArg boolD (eqP_yes (Crv.ext_iff.2 ⟨Classical.not_not.1 hb1, Classical.not_not.1 hb2, Classical.not_not.1 hb3, Classical.not_not.1 hb4, hb5, hb6, hb7, hb8⟩)).symm⟩

set_option maxRecDepth 100000 in
theorem fnCurveOf_c {id : Int} : AC Try.prog 7 [intD id] (fun d => d = .im (.bool true)) := by
  refine AC.intro Try.func7 Try.ntmps7 Try.results7 rfl (by simp) (fun w0 T => ?_)
  refine AW.seq ?_
  refine AW.region ?_
  refine AO.xs rfl rfl rfl (XS.assign rfl) ?_
  refine AO.nil ?_
  refine AW.seq ?_
  refine AW.region ?_
  refine AO.xs rfl rfl rfl (XS.move rfl) ?_
  refine AO.xs rfl rfl rfl (XS.call rfl (by kernel_rfl) rfl curveOfS_c) ?_
  refine AO.xs rfl rfl rfl (XS.move rfl) ?_
  refine AO.xs rfl rfl rfl (XS.extract rfl rfl) ?_
  refine AO.xs rfl rfl rfl (XS.extract rfl rfl) ?_
  refine AO.alloc rfl rfl (ze rfl) ?_
  refine AO.store rfl rfl rfl rfl (sz rfl) rfl rfl rfl rfl ?_
  refine AO.xs rfl rfl rfl (XS.assign rfl) ?_
  refine AO.nil ?_
  refine AW.seq ?_
  refine AW.region ?_
  refine AO.xs rfl rfl rfl (XS.move rfl) ?_
  refine AO.xs rfl rfl rfl (XS.call rfl (by kernel_rfl) rfl curveOfI_c) ?_
  refine AO.xs rfl rfl rfl (XS.move rfl) ?_
  refine AO.xs rfl rfl rfl (XS.extract rfl rfl) ?_
  refine AO.xs rfl rfl rfl (XS.extract rfl rfl) ?_
  refine AO.alloc rfl rfl (ze rfl) ?_
  refine AO.store rfl rfl rfl rfl (sz rfl) rfl rfl rfl rfl ?_
  refine AO.xs rfl rfl rfl (XS.assign rfl) ?_
  refine AO.nil ?_
  refine AW.seq ?_
  refine AW.seq ?_
  refine AW.region ?_
  refine AO.xs rfl rfl rfl (XS.loadA rfl (ro rfl) (sz rfl) rfl (Nat.le_of_ble_eq_true rfl)) ?_
  refine AO.xs rfl rfl rfl (XS.loadA rfl (ro rfl) (sz rfl) rfl (Nat.le_of_ble_eq_true rfl)) ?_
  refine AO.xs rfl rfl rfl (XS.call rfl (by kernel_rfl) rfl eqCurve_c) ?_
  refine AO.xs rfl rfl rfl (XS.not rfl) ?_
  refine AO.xs rfl rfl rfl (XS.move rfl) ?_
  refine AO.split 21 rfl (fun hg1 => ?_) (fun hg1 => ?_)
  · skip
    have hg1n := eqP_false.1 (notT hg1)
    refine AO.gno rfl rfl rfl rfl rfl rfl hg1 (by decide) rfl ?_
    refine AO.gno rfl rfl rfl rfl rfl rfl hg1 (by decide) rfl ?_
    refine AO.gno rfl rfl rfl rfl rfl rfl hg1 (by decide) rfl ?_
    refine AO.xs rfl rfl rfl (XS.pickT rfl rfl hg1) ?_
    refine AO.nil ?_
    refine AW.condT rfl rfl ?_
    refine AW.seq ?_
    refine AW.region ?_
    refine AO.xs rfl rfl rfl (XS.assign rfl) ?_
    refine AO.nil ?_
    refine AW.ret ?_
    exact absurd rfl hg1n
  · skip
    have hg1n := eqP_iff.1 (notF hg1)
    refine AO.gyes rfl rfl rfl rfl rfl rfl hg1 rfl (XS.move rfl) ?_
    refine AO.gyes rfl rfl rfl rfl rfl rfl hg1 rfl (XS.move rfl) ?_
    refine AO.gyes rfl rfl rfl rfl rfl rfl hg1 rfl (XS.boolNe rfl rfl (bo rfl)) ?_
    refine AO.xs rfl rfl rfl (XS.pickF rfl rfl hg1) ?_
    refine AO.nil ?_
    refine AW.cond rfl (fun hb2 => ?_) (fun hb2 => ?_)
    · skip
      replace hb2 := bne_iff_ne.1 hb2
      refine AW.seq ?_
      refine AW.region ?_
      refine AO.xs rfl rfl rfl (XS.assign rfl) ?_
      refine AO.nil ?_
      refine AW.ret ?_
      exact absurd rfl hb2
    · skip
      replace hb2 := bne_eq_false_iff_eq.1 hb2
      refine AW.skip ?_
      refine AW.seq ?_
      refine AW.region ?_
      refine AO.xs rfl rfl rfl (XS.assign rfl) ?_
      refine AO.nil ?_
      refine AW.ret ?_
      exact ⟨_, rfl, rfl⟩


def ppt0 : PPt := ⟨false, ⟨⟨#[]⟩, ⟨#[]⟩⟩, ⟨⟨#[]⟩, ⟨#[]⟩⟩⟩
def pbF (f : Fm) : PPt := ⟨false, ⟨f.xa, f.xb⟩, ⟨f.ya, f.yb⟩⟩
noncomputable def pbOf (id : Int) : PPt := @ite _ (isCv id) (Classical.propDecidable _) (pbF (cvF id)) ppt0
theorem pbOf_yes {id : Int} (h : isCv id) : pbOf id = (pbF (cvF id)) := @if_pos _ (Classical.propDecidable _) h _ _ _
theorem pbOf_no {id : Int} (h : ¬ isCv id) : pbOf id = ppt0 := @if_neg _ (Classical.propDecidable _) h _ _ _
theorem pb_eq (id : Int) (h : isCv id) : Dv.ag [boolD false, strD (strN (beN (cvF id).xa)), strD (strN (beN (cvF id).xb)), strD (strN (beN (cvF id).ya)), strD (strN (beN (cvF id).yb))] = .ag (pbOf id).cs := by
  have ho := cvF_ok id
  rw [pbOf_yes h, strN_beN ho.cxa, strN_beN ho.cxb, strN_beN ho.cya, strN_beN ho.cyb]; rfl

set_option maxRecDepth 100000 in
theorem pairBaseI_c {id : Int} : AC Try.prog 24 [intD id] (fun d => d = .ag (pbOf id).cs) := by
  refine AC.intro Try.func24 Try.ntmps24 Try.results24 rfl (by simp) (fun w0 T => ?_)
  have ho := cvF_ok id
  refine AW.seq ?_
  refine AW.region ?_
  refine AO.alloc rfl rfl (ze rfl) ?_
  refine AO.nil ?_
  refine AW.seq ?_
  refine AW.seq ?_
  refine AW.region ?_
  refine AO.xs rfl rfl rfl (XS.move rfl) ?_
  refine AO.xs rfl rfl rfl (XS.call rfl (by kernel_rfl) rfl isCurve_c) ?_
  refine AO.xs rfl rfl rfl (XS.not rfl) ?_
  refine AO.nil ?_
  refine AW.cond rfl (fun hb1 => ?_) (fun hb1 => ?_)
  · skip
    replace hb1 := eqP_false.1 (notT hb1)
    refine AW.seq ?_
    refine AW.region ?_
    refine AO.xs rfl rfl rfl (XS.build (ze rfl) (pl rfl) rfl rfl) ?_
    refine AO.store rfl rfl rfl rfl (sz rfl) rfl rfl rfl rfl ?_
    refine AO.nil ?_
    refine AW.ret ?_
    exact ⟨_, rfl, by rw [pbOf_no hb1]; rfl⟩
  · skip
    replace hb1 := eqP_iff.1 (notF hb1)
    refine AW.skip ?_
    refine AW.seq ?_
    refine AW.region ?_
    refine AO.xs rfl rfl rfl (XS.move rfl) ?_
    refine AO.xs rfl rfl rfl (XS.call rfl (by kernel_rfl) rfl curve_c) ?_
    refine AO.alloc rfl rfl (ze rfl) ?_
    refine AO.store rfl rfl rfl rfl (sz rfl) rfl rfl rfl rfl ?_
    refine AO.nil ?_
    refine AW.seq ?_
    refine AW.drawn mix ?_
    refine DC.cons rfl rfl rfl (XS.field rfl (fo rfl)) ?_
    refine DC.cons rfl rfl rfl (XS.loadA rfl (ro rfl) (sz rfl) rfl (Nat.le_of_ble_eq_true rfl)) ?_
    refine DC.cons rfl rfl rfl (XS.call rfl (by kernel_rfl) rfl (told_c (great48 ho.cxa ho.lxa).2 (great48 ho.cxb ho.lxb).2)) ?_
    refine DC.cons rfl rfl rfl (XS.field rfl (fo rfl)) ?_
    refine DC.cons rfl rfl rfl (XS.loadA rfl (ro rfl) (sz rfl) rfl (Nat.le_of_ble_eq_true rfl)) ?_
    refine DC.cons rfl rfl rfl (XS.call rfl (by kernel_rfl) rfl (told_c (great48 ho.cya ho.lya).2 (great48 ho.cyb ho.lyb).2)) ?_
    refine DC.cons rfl rfl rfl (XS.build (ze rfl) (pl rfl) rfl rfl) ?_
    refine DC.done (by kernel_rfl) ?_
    refine AO.store rfl rfl rfl rfl (sz rfl) rfl rfl rfl rfl ?_
    refine AO.nil ?_
    refine AW.ret ?_
    exact ⟨_, rfl, pb_eq id hb1⟩

set_option maxRecDepth 100000 in
theorem pairBaseS_c {id : Int} : AC Try.prog 23 [intD id] (fun d => d = .ag (pbOf id).cs) := by
  refine AC.intro Try.func23 Try.ntmps23 Try.results23 rfl (by simp) (fun w0 T => ?_)
  refine AW.seq ?_
  refine AW.region ?_
  refine AO.alloc rfl rfl (ze rfl) ?_
  refine AO.nil ?_
  refine AW.seq ?_
  refine AW.seq ?_
  refine AW.region ?_
  refine AO.xs rfl rfl rfl (XS.move rfl) ?_
  refine AO.nil ?_
  refine AW.block ?_
  refine AW.seq ?_
  refine AW.region ?_
  refine AO.xs rfl rfl rfl (XS.int rfl rfl rfl) ?_
  refine AO.xs rfl rfl rfl (XS.assign rfl) ?_
  refine AO.nil ?_
  refine AW.cond rfl (fun hb1 => ?_) (fun hb1 => ?_)
  · skip
    replace hb1 := eq_of_beq hb1
    refine AW.seq ?_
    refine AW.region ?_
    refine AO.xs rfl rfl rfl (XS.build (ze rfl) (pl rfl) rfl rfl) ?_
    refine AO.xs rfl rfl rfl (XS.build (ze rfl) (pl rfl) rfl rfl) ?_
    refine AO.xs rfl rfl rfl (XS.build (ze rfl) (pl rfl) rfl rfl) ?_
    refine AO.store rfl rfl rfl rfl (sz rfl) rfl rfl rfl rfl ?_
    refine AO.nil ?_
    refine AW.ret ?_
    exact ⟨_, rfl, by rw [pbOf_yes (show isCv id by unfold isCv; omega), cv_1 hb1]; rfl⟩
  · skip
    replace hb1 := ne_of_beq_false hb1
    refine AW.seq ?_
    refine AW.region ?_
    refine AO.xs rfl rfl rfl (XS.int rfl rfl rfl) ?_
    refine AO.xs rfl rfl rfl (XS.assign rfl) ?_
    refine AO.nil ?_
    refine AW.cond rfl (fun hb2 => ?_) (fun hb2 => ?_)
    · skip
      replace hb2 := eq_of_beq hb2
      refine AW.seq ?_
      refine AW.region ?_
      refine AO.xs rfl rfl rfl (XS.build (ze rfl) (pl rfl) rfl rfl) ?_
      refine AO.xs rfl rfl rfl (XS.build (ze rfl) (pl rfl) rfl rfl) ?_
      refine AO.xs rfl rfl rfl (XS.build (ze rfl) (pl rfl) rfl rfl) ?_
      refine AO.store rfl rfl rfl rfl (sz rfl) rfl rfl rfl rfl ?_
      refine AO.nil ?_
      refine AW.ret ?_
      exact ⟨_, rfl, by rw [pbOf_yes (show isCv id by unfold isCv; omega), cv_2 hb1 hb2]; rfl⟩
    · skip
      replace hb2 := ne_of_beq_false hb2
      refine AW.seq ?_
      refine AW.region ?_
      refine AO.xs rfl rfl rfl (XS.int rfl rfl rfl) ?_
      refine AO.xs rfl rfl rfl (XS.assign rfl) ?_
      refine AO.nil ?_
      refine AW.cond rfl (fun hb3 => ?_) (fun hb3 => ?_)
      · skip
        replace hb3 := eq_of_beq hb3
        refine AW.seq ?_
        refine AW.region ?_
        refine AO.xs rfl rfl rfl (XS.build (ze rfl) (pl rfl) rfl rfl) ?_
        refine AO.xs rfl rfl rfl (XS.build (ze rfl) (pl rfl) rfl rfl) ?_
        refine AO.xs rfl rfl rfl (XS.build (ze rfl) (pl rfl) rfl rfl) ?_
        refine AO.store rfl rfl rfl rfl (sz rfl) rfl rfl rfl rfl ?_
        refine AO.nil ?_
        refine AW.ret ?_
        exact ⟨_, rfl, by rw [pbOf_yes (show isCv id by unfold isCv; omega), cv_3 hb1 hb2 hb3]; rfl⟩
      · skip
        replace hb3 := ne_of_beq_false hb3
        refine AW.seq ?_
        refine AW.region ?_
        refine AO.xs rfl rfl rfl (XS.int rfl rfl rfl) ?_
        refine AO.xs rfl rfl rfl (XS.assign rfl) ?_
        refine AO.nil ?_
        refine AW.cond rfl (fun hb4 => ?_) (fun hb4 => ?_)
        · skip
          replace hb4 := eq_of_beq hb4
          refine AW.seq ?_
          refine AW.region ?_
          refine AO.xs rfl rfl rfl (XS.build (ze rfl) (pl rfl) rfl rfl) ?_
          refine AO.xs rfl rfl rfl (XS.build (ze rfl) (pl rfl) rfl rfl) ?_
          refine AO.xs rfl rfl rfl (XS.build (ze rfl) (pl rfl) rfl rfl) ?_
          refine AO.store rfl rfl rfl rfl (sz rfl) rfl rfl rfl rfl ?_
          refine AO.nil ?_
          refine AW.ret ?_
          exact ⟨_, rfl, by rw [pbOf_yes (show isCv id by unfold isCv; omega), cv_4 hb1 hb2 hb3]; rfl⟩
        · skip
          replace hb4 := ne_of_beq_false hb4
          refine AW.skip ?_
          refine AW.seq ?_
          refine AW.region ?_
          refine AO.xs rfl rfl rfl (XS.build (ze rfl) (pl rfl) rfl rfl) ?_
          refine AO.store rfl rfl rfl rfl (sz rfl) rfl rfl rfl rfl ?_
          refine AO.nil ?_
          refine AW.ret ?_
          exact ⟨_, rfl, by rw [pbOf_no (show ¬ isCv id by unfold isCv; omega)]; rfl⟩

set_option maxRecDepth 100000 in
theorem fnPairBase_c {id : Int} : AC Try.prog 5 [intD id] (fun d => d = .im (.bool true)) := by
  refine AC.intro Try.func5 Try.ntmps5 Try.results5 rfl (by simp) (fun w0 T => ?_)
  refine AW.seq ?_
  refine AW.region ?_
  refine AO.xs rfl rfl rfl (XS.assign rfl) ?_
  refine AO.nil ?_
  refine AW.seq ?_
  refine AW.region ?_
  refine AO.xs rfl rfl rfl (XS.move rfl) ?_
  refine AO.xs rfl rfl rfl (XS.call rfl (by kernel_rfl) rfl pairBaseS_c) ?_
  refine AO.alloc rfl rfl (ze rfl) ?_
  refine AO.store rfl rfl rfl rfl (sz rfl) rfl rfl rfl rfl ?_
  refine AO.nil ?_
  refine AW.seq ?_
  refine AW.region ?_
  refine AO.xs rfl rfl rfl (XS.move rfl) ?_
  refine AO.xs rfl rfl rfl (XS.call rfl (by kernel_rfl) rfl pairBaseI_c) ?_
  refine AO.alloc rfl rfl (ze rfl) ?_
  refine AO.store rfl rfl rfl rfl (sz rfl) rfl rfl rfl rfl ?_
  refine AO.nil ?_
  refine AW.seq ?_
  refine AW.seq ?_
  refine AW.region ?_
  refine AO.xs rfl rfl rfl (XS.loadA rfl (ro rfl) (sz rfl) rfl (Nat.le_of_ble_eq_true rfl)) ?_
  refine AO.xs rfl rfl rfl (XS.loadA rfl (ro rfl) (sz rfl) rfl (Nat.le_of_ble_eq_true rfl)) ?_
  refine AO.xs rfl rfl rfl (XS.call rfl (by kernel_rfl) rfl (eqPairPoint_c (p := pbOf id) (q := pbOf id))) ?_
  refine AO.xs rfl rfl rfl (XS.not rfl) ?_
  refine AO.nil ?_
  refine AW.cond rfl (fun hb1 => ?_) (fun hb1 => ?_)
  · skip
    replace hb1 := eqP_false.1 (notT hb1)
    exact absurd rfl hb1
  · skip
    replace hb1 := eqP_iff.1 (notF hb1)
    refine AW.skip ?_
    refine AW.seq ?_
    refine AW.region ?_
    refine AO.xs rfl rfl rfl (XS.assign rfl) ?_
    refine AO.nil ?_
    refine AW.ret ?_
    exact ⟨_, rfl, rfl⟩

end Go.Proofs.Ytnepbbhcbehilaa.C
