/-
  OWN WORK, printed by wip/tools/gen.py out of the translation and of the contracts in wip/specs.
-/
import Derived.Test.YtgafdhpagifpcaaC12
namespace Go.Proofs.Ytgafdhpagifpcaa.C
open Go Go.RowKit Go.Proofs.Ytgafdhpagifpcaa.Av Go.Proofs.Ytgafdhpagifpcaa.Ty Go.Proofs.Ytgafdhpagifpcaa.Num
set_option linter.unusedVariables false

set_option maxRecDepth 100000 in
theorem greatOkI_c {s : ByteArray} : AC Try.prog 73 [strD s] (fun d => d = boolD (eqP (greatOk s))) := by
  refine AC.intro Try.func73 Try.ntmps73 Try.results73 rfl (by simp) (fun w0 T => ?_)
  refine AW.seq ?_
  refine AW.region ?_
  refine AO.xs rfl rfl rfl (XS.assign rfl) ?_
  refine AO.nil ?_
  refine AW.seq ?_
  refine AW.region ?_
  refine AO.xs rfl rfl rfl (XS.move rfl) ?_
  refine AO.xs rfl rfl rfl (XS.lenStr rfl (st rfl)) ?_
  refine AO.xs rfl rfl rfl (XS.int rfl rfl rfl) ?_
  refine AO.xs rfl rfl rfl (XS.move rfl) ?_
  refine AO.split 6 rfl (fun hg1 => ?_) (fun hg1 => ?_)
  · skip
    have hg1n := of_decide_eq_true hg1
    refine AO.gyes rfl rfl rfl rfl rfl rfl hg1 rfl (XS.move rfl) ?_
    refine AO.gyes rfl rfl rfl rfl rfl rfl hg1 rfl (XS.strEq rfl rfl) ?_
    refine AO.gyes rfl rfl rfl rfl rfl rfl hg1 rfl (XS.move rfl) ?_
    refine AO.split 9 rfl (fun hg2 => ?_) (fun hg2 => ?_)
    · skip
      have hg2n := eqP_iff.1 hg2
      refine AO.gno rfl rfl rfl rfl rfl rfl hg2 (by decide) rfl ?_
      refine AO.gno rfl rfl rfl rfl rfl rfl hg2 (by decide) rfl ?_
      refine AO.gno rfl rfl rfl rfl rfl rfl hg2 (by decide) rfl ?_
      refine AO.gyes rfl rfl rfl rfl rfl rfl hg1 rfl (XS.pickT rfl rfl hg2) ?_
      refine AO.xs rfl rfl rfl (XS.pickT rfl rfl hg1) ?_
      refine AO.xs rfl rfl rfl (XS.assign rfl) ?_
      refine AO.nil ?_
      refine AW.ret ?_
      exact ⟨_, rfl, congrArg boolD (eqP_yes (great_nil hg2n)).symm⟩
    · skip
      have hg2n := eqP_false.1 hg2
      refine AO.gyes rfl rfl rfl rfl rfl rfl hg2 rfl (XS.move rfl) ?_
      refine AO.gyes rfl rfl rfl rfl rfl rfl hg2 rfl (XS.indexN (j := 0) rfl rfl (st rfl) (size_pos hg2n)) ?_
      refine AO.gyes rfl rfl rfl rfl rfl rfl hg2 rfl (XS.int rfl rfl rfl) ?_
      refine AO.gyes rfl rfl rfl rfl rfl rfl hg1 rfl (XS.pickF rfl rfl hg2) ?_
      refine AO.xs rfl rfl rfl (XS.pickT rfl rfl hg1) ?_
      refine AO.xs rfl rfl rfl (XS.assign rfl) ?_
      refine AO.nil ?_
      refine AW.ret ?_
      exact ⟨_, rfl, congrArg boolD (great_one hg1n hg2n)⟩
  · skip
    have hg1n := of_decide_eq_false hg1
    refine AO.gno rfl rfl rfl rfl rfl rfl hg1 (by decide) rfl ?_
    refine AO.gno rfl rfl rfl rfl rfl rfl hg1 (by decide) rfl ?_
    refine AO.gno rfl rfl rfl rfl rfl rfl hg1 (by decide) rfl ?_
    refine AO.gnt rfl rfl rfl rfl rfl rfl rfl ?_
    refine AO.gnt rfl rfl rfl rfl rfl rfl rfl ?_
    refine AO.gnt rfl rfl rfl rfl rfl rfl rfl ?_
    refine AO.gno rfl rfl rfl rfl rfl rfl hg1 (by decide) rfl ?_
    refine AO.xs rfl rfl rfl (XS.pickF rfl rfl hg1) ?_
    refine AO.xs rfl rfl rfl (XS.assign rfl) ?_
    refine AO.nil ?_
    refine AW.ret ?_
    exact ⟨_, rfl, congrArg boolD (eqP_no (fun h => hg1n (by have := h.1; omega))).symm⟩

set_option maxRecDepth 100000 in
theorem greatOkS_c {s : ByteArray} : AC Try.prog 57 [strD s] (fun d => d = boolD (eqP (greatOk s))) := by
  refine AC.intro Try.func57 Try.ntmps57 Try.results57 rfl (by simp) (fun w0 T => ?_)
  refine AW.seq ?_
  refine AW.region ?_
  refine AO.xs rfl rfl rfl (XS.assign rfl) ?_
  refine AO.nil ?_
  refine AW.seq ?_
  refine AW.region ?_
  refine AO.xs rfl rfl rfl (XS.move rfl) ?_
  refine AO.xs rfl rfl rfl (XS.lenStr rfl (st rfl)) ?_
  refine AO.xs rfl rfl rfl (XS.int rfl rfl rfl) ?_
  refine AO.xs rfl rfl rfl (XS.move rfl) ?_
  refine AO.split 6 rfl (fun hg1 => ?_) (fun hg1 => ?_)
  · skip
    have hg1n := of_decide_eq_true hg1
    refine AO.gyes rfl rfl rfl rfl rfl rfl hg1 rfl (XS.move rfl) ?_
    refine AO.gyes rfl rfl rfl rfl rfl rfl hg1 rfl (XS.strEq rfl rfl) ?_
    refine AO.gyes rfl rfl rfl rfl rfl rfl hg1 rfl (XS.move rfl) ?_
    refine AO.split 9 rfl (fun hg2 => ?_) (fun hg2 => ?_)
    · skip
      have hg2n := eqP_iff.1 hg2
      refine AO.gno rfl rfl rfl rfl rfl rfl hg2 (by decide) rfl ?_
      refine AO.gno rfl rfl rfl rfl rfl rfl hg2 (by decide) rfl ?_
      refine AO.gno rfl rfl rfl rfl rfl rfl hg2 (by decide) rfl ?_
      refine AO.gyes rfl rfl rfl rfl rfl rfl hg1 rfl (XS.pickT rfl rfl hg2) ?_
      refine AO.xs rfl rfl rfl (XS.pickT rfl rfl hg1) ?_
      refine AO.xs rfl rfl rfl (XS.assign rfl) ?_
      refine AO.nil ?_
      refine AW.ret ?_
      exact ⟨_, rfl, congrArg boolD (eqP_yes (great_nil hg2n)).symm⟩
    · skip
      have hg2n := eqP_false.1 hg2
      refine AO.gyes rfl rfl rfl rfl rfl rfl hg2 rfl (XS.move rfl) ?_
      refine AO.gyes rfl rfl rfl rfl rfl rfl hg2 rfl (XS.indexN (j := 0) rfl rfl (st rfl) (size_pos hg2n)) ?_
      refine AO.gyes rfl rfl rfl rfl rfl rfl hg2 rfl (XS.int rfl rfl rfl) ?_
      refine AO.gyes rfl rfl rfl rfl rfl rfl hg1 rfl (XS.pickF rfl rfl hg2) ?_
      refine AO.xs rfl rfl rfl (XS.pickT rfl rfl hg1) ?_
      refine AO.xs rfl rfl rfl (XS.assign rfl) ?_
      refine AO.nil ?_
      refine AW.ret ?_
      exact ⟨_, rfl, congrArg boolD (great_one hg1n hg2n)⟩
  · skip
    have hg1n := of_decide_eq_false hg1
    refine AO.gno rfl rfl rfl rfl rfl rfl hg1 (by decide) rfl ?_
    refine AO.gno rfl rfl rfl rfl rfl rfl hg1 (by decide) rfl ?_
    refine AO.gno rfl rfl rfl rfl rfl rfl hg1 (by decide) rfl ?_
    refine AO.gnt rfl rfl rfl rfl rfl rfl rfl ?_
    refine AO.gnt rfl rfl rfl rfl rfl rfl rfl ?_
    refine AO.gnt rfl rfl rfl rfl rfl rfl rfl ?_
    refine AO.gno rfl rfl rfl rfl rfl rfl hg1 (by decide) rfl ?_
    refine AO.xs rfl rfl rfl (XS.pickF rfl rfl hg1) ?_
    refine AO.xs rfl rfl rfl (XS.assign rfl) ?_
    refine AO.nil ?_
    refine AW.ret ?_
    exact ⟨_, rfl, congrArg boolD (eqP_no (fun h => hg1n (by have := h.1; omega))).symm⟩


noncomputable def sel (P : Prop) (n : Nat) : Nat := @ite _ P (Classical.propDecidable P) n 0
theorem sel_yes {P : Prop} (h : P) (n : Nat) : sel P n = n := @if_pos P (Classical.propDecidable P) h _ _ _
theorem sel_no {P : Prop} (h : ¬ P) (n : Nat) : sel P n = 0 := @if_neg P (Classical.propDecidable P) h _ _ _
theorem tu_no {P : Prop} (h : ¬ P) (n : Nat) : Dv.tu [.sl [], boolD false] = .tu [natD (sel P n), boolD (eqP P)] := by rw [sel_no h, natD_zero, eqP_no h]
theorem tu_yes {P : Prop} (h : P) (n : Nat) : Dv.tu [natD n, boolD true] = .tu [natD (sel P n), boolD (eqP P)] := by rw [sel_yes h, eqP_yes h]
theorem rest_one {a p : ByteArray} (h : ∀ x ∈ [a, p], greatOk x) : decide (cmpN 18446744073709551616 (beN a) (beN p) < 0) = eqP (restOk a p) := by
  refine b_eqP ?_
  rw [decide_eq_true_iff, cmpN_lt (by decide)]
  exact ⟨fun h1 => ⟨h a (by simp), h p (by simp), h1⟩, fun h1 => h1.2.2⟩
theorem rest_two {a p : ByteArray} (h1 : greatOk a) (h2 : greatOk p) : decide (sgN (beN a) (beN p) < 0) = eqP (restOk a p) := by
  refine b_eqP ?_
  rw [decide_eq_true_iff, sgN_lt]
  exact ⟨fun h3 => ⟨h1, h2, h3⟩, fun h3 => h3.2.2⟩

set_option maxRecDepth 100000 in
theorem areGreat_c {xs : List ByteArray} (hn : xs.length ≤ 1048576) : AC Try.prog 143 [strsD xs] (fun d => d = boolD (eqP (∀ x ∈ xs, greatOk x))) := by
  refine AC.intro Try.func143 Try.ntmps143 Try.results143 rfl (by simp) (fun w0 T => ?_)
  refine AW.seq ?_
  refine AW.region ?_
  refine AO.xs rfl rfl rfl (XS.assign rfl) ?_
  refine AO.nil ?_
  refine AW.seq ?_
  refine AW.seq ?_
  refine AW.region ?_
  refine AO.xs rfl rfl rfl (XS.move rfl) ?_
  refine AO.xs rfl rfl rfl (XS.lenM rfl (el rfl)) ?_
  refine AO.xs rfl rfl rfl (XS.move rfl) ?_
  refine AO.nil ?_
  refine AW.block ?_
  refine AW.loop [5, 6] (fun i => [(7, .d (intD ((i : Nat) : Int)))]) (fun _ => _) (fun i => i ≤ xs.length ∧ ∀ x ∈ xs.take i, greatOk x) (fun i => xs.length - i) (0) ⟨Nat.zero_le _, by simp⟩ ⟨rfl, trivial⟩ ⟨⟨_, rfl, rfl⟩, ⟨_, rfl, rfl⟩, trivial⟩ rfl ?_
  intro i ⟨hi, hk⟩
  refine AW.seq ?_
  refine AW.region ?_
  refine AO.xs rfl rfl rfl (XS.int rfl rfl rfl) ?_
  refine AO.nil ?_
  refine AW.seq ?_
  refine AW.cond rfl (fun hb1 => ?_) (fun hb1 => ?_)
  · skip
    replace hb1 := of_decide_eq_true hb1
    refine AW.skip ?_
    refine AW.seq ?_
    refine AW.block ?_
    refine AW.seq ?_
    refine AW.region ?_
    refine AO.xs rfl rfl rfl (XS.indexM rfl rfl (el rfl) (by omega) rfl) ?_
    refine AO.xs rfl rfl rfl (XS.loadE rfl (on rfl) rfl) ?_
    refine AO.xs rfl rfl rfl (XS.assign rfl) ?_
    refine AO.nil ?_
    refine AW.seq ?_
    refine AW.region ?_
    refine AO.xs rfl rfl rfl (XS.move rfl) ?_
    refine AO.xs rfl rfl rfl (XS.call rfl (by kernel_rfl) rfl greatOkI_c) ?_
    refine AO.xs rfl rfl rfl (XS.not rfl) ?_
    refine AO.nil ?_
    refine AW.cond rfl (fun hb2 => ?_) (fun hb2 => ?_)
    · skip
      replace hb2 := eqP_false.1 (notT hb2)
      refine AW.seq ?_
      refine AW.region ?_
      refine AO.xs rfl rfl rfl (XS.assign rfl) ?_
      refine AO.nil ?_
      refine AW.ret ?_
      exact ⟨_, rfl, congrArg boolD (eqP_no (fun h => hb2 (h _ (List.getElem_mem (by omega))))).symm⟩
    · skip
      replace hb2 := eqP_iff.1 (notF hb2)
      refine AW.skip ?_
      refine AW.region ?_
      refine AO.xs rfl rfl rfl (XS.addN (n := 1) rfl rfl (by omega)) ?_
      refine AO.xs rfl rfl rfl (XS.move rfl) ?_
      refine AO.nil ?_
      exact ⟨i + 1, ⟨by omega, all_next (by omega) hk hb2⟩, (by dsimp only; omega), ⟨rfl, trivial⟩, ⟨⟨_, rfl, rfl⟩, ⟨_, rfl, rfl⟩, trivial⟩, rfl⟩
  · skip
    replace hb1 := of_decide_eq_false hb1
    refine AW.exit ?_
    refine AW.seq ?_
    refine AW.region ?_
    refine AO.xs rfl rfl rfl (XS.assign rfl) ?_
    refine AO.nil ?_
    refine AW.ret ?_
    exact ⟨_, rfl, congrArg boolD (eqP_yes (all_done (by omega) hk)).symm⟩

set_option maxRecDepth 100000 in
theorem restOkI_c {a p : ByteArray} : AC Try.prog 111 [strD a, strD p] (fun d => d = boolD (eqP (restOk a p))) := by
  refine AC.intro Try.func111 Try.ntmps111 Try.results111 rfl (by simp) (fun w0 T => ?_)
  refine AW.seq ?_
  refine AW.region ?_
  refine AO.xs rfl rfl rfl (XS.assign rfl) ?_
  refine AO.nil ?_
  refine AW.seq ?_
  refine AW.region ?_
  refine AO.xs rfl rfl rfl (XS.move rfl) ?_
  refine AO.xs rfl rfl rfl (XS.move rfl) ?_
  refine AO.xs rfl rfl rfl (XS.buildSlice (ap rfl) rfl rfl rfl (by decide)) ?_
  refine AO.xs rfl rfl rfl (XS.call rfl (by kernel_rfl) rfl (areGreat_c (xs := [a, p]) (by simp))) ?_
  refine AO.xs rfl rfl rfl (XS.move rfl) ?_
  refine AO.split 9 rfl (fun hg1 => ?_) (fun hg1 => ?_)
  · skip
    have hg1n := eqP_iff.1 hg1
    refine AO.gyes rfl rfl rfl rfl rfl rfl hg1 rfl (XS.move rfl) ?_
    have n1 := nl64_size a
    have n2 := nl64_size p
    have n3 := (hg1n a (by simp)).1
    have n4 := (hg1n p (by simp)).1
    refine AO.gyes rfl rfl rfl rfl rfl rfl hg1 rfl (XS.call rfl (by kernel_rfl) rfl (natOf_c (by omega))) ?_
    refine AO.gyes rfl rfl rfl rfl rfl rfl hg1 rfl (XS.move rfl) ?_
    refine AO.gyes rfl rfl rfl rfl rfl rfl hg1 rfl (XS.call rfl (by kernel_rfl) rfl (natOf_c (by omega))) ?_
    refine AO.gyes rfl rfl rfl rfl rfl rfl hg1 rfl (XS.call rfl (by kernel_rfl) rfl (cmp_c (by omega) (by omega))) ?_
    refine AO.gyes rfl rfl rfl rfl rfl rfl hg1 rfl (XS.int rfl rfl rfl) ?_
    refine AO.xs rfl rfl rfl (XS.pickT rfl rfl hg1) ?_
    refine AO.xs rfl rfl rfl (XS.assign rfl) ?_
    refine AO.nil ?_
    refine AW.ret ?_
    exact ⟨_, rfl, congrArg boolD (rest_one hg1n)⟩
  · skip
    have hg1n := eqP_false.1 hg1
    refine AO.gno rfl rfl rfl rfl rfl rfl hg1 (by decide) rfl ?_
    refine AO.gno rfl rfl rfl rfl rfl rfl hg1 (by decide) rfl ?_
    refine AO.gno rfl rfl rfl rfl rfl rfl hg1 (by decide) rfl ?_
    refine AO.gno rfl rfl rfl rfl rfl rfl hg1 (by decide) rfl ?_
    refine AO.gno rfl rfl rfl rfl rfl rfl hg1 (by decide) rfl ?_
    refine AO.gno rfl rfl rfl rfl rfl rfl hg1 (by decide) rfl ?_
    refine AO.xs rfl rfl rfl (XS.pickF rfl rfl hg1) ?_
    refine AO.xs rfl rfl rfl (XS.assign rfl) ?_
    refine AO.nil ?_
    refine AW.ret ?_
    exact ⟨_, rfl, congrArg boolD (eqP_no (fun h => hg1n (by intro x hx; rcases List.mem_cons.1 hx with rfl | hx; exact h.1; rw [List.mem_singleton.1 hx]; exact h.2.1))).symm⟩

set_option maxRecDepth 100000 in
theorem restOkS_c {a p : ByteArray} : AC Try.prog 88 [strD a, strD p] (fun d => d = boolD (eqP (restOk a p))) := by
  refine AC.intro Try.func88 Try.ntmps88 Try.results88 rfl (by simp) (fun w0 T => ?_)
  refine AW.seq ?_
  refine AW.region ?_
  refine AO.xs rfl rfl rfl (XS.assign rfl) ?_
  refine AO.nil ?_
  refine AW.seq ?_
  refine AW.region ?_
  refine AO.xs rfl rfl rfl (XS.move rfl) ?_
  refine AO.xs rfl rfl rfl (XS.call rfl (by kernel_rfl) rfl greatOkS_c) ?_
  refine AO.xs rfl rfl rfl (XS.move rfl) ?_
  refine AO.split 7 rfl (fun hg1 => ?_) (fun hg1 => ?_)
  · skip
    have hg1n := eqP_iff.1 hg1
    refine AO.gyes rfl rfl rfl rfl rfl rfl hg1 rfl (XS.move rfl) ?_
    refine AO.gyes rfl rfl rfl rfl rfl rfl hg1 rfl (XS.call rfl (by kernel_rfl) rfl greatOkS_c) ?_
    refine AO.xs rfl rfl rfl (XS.pickT rfl rfl hg1) ?_
    refine AO.xs rfl rfl rfl (XS.move rfl) ?_
    refine AO.split 11 rfl (fun hg2 => ?_) (fun hg2 => ?_)
    · skip
      have hg2n := eqP_iff.1 hg2
      have n1 := nl24_size a
      have n2 := nl24_size p
      have n3 := hg1n.1
      have n4 := hg2n.1
      refine AO.gyes rfl rfl rfl rfl rfl rfl hg2 rfl (XS.move rfl) ?_
      refine AO.gyes rfl rfl rfl rfl rfl rfl hg2 rfl (XS.call rfl (by kernel_rfl) rfl (l02In_c (by omega))) ?_
      refine AO.gyes rfl rfl rfl rfl rfl rfl hg2 rfl (XS.move rfl) ?_
      refine AO.gyes rfl rfl rfl rfl rfl rfl hg2 rfl (XS.call rfl (by kernel_rfl) rfl (l02In_c (by omega))) ?_
      refine AO.gyes rfl rfl rfl rfl rfl rfl hg2 rfl (XS.call rfl (by kernel_rfl) rfl (l02Cmp_c (by omega) (by omega))) ?_
      refine AO.gyes rfl rfl rfl rfl rfl rfl hg2 rfl (XS.int rfl rfl rfl) ?_
      refine AO.xs rfl rfl rfl (XS.pickT rfl rfl hg2) ?_
      refine AO.xs rfl rfl rfl (XS.assign rfl) ?_
      refine AO.nil ?_
      refine AW.ret ?_
      exact ⟨_, rfl, congrArg boolD (rest_two hg1n hg2n)⟩
    · skip
      have hg2n := eqP_false.1 hg2
      refine AO.gno rfl rfl rfl rfl rfl rfl hg2 (by decide) rfl ?_
      refine AO.gno rfl rfl rfl rfl rfl rfl hg2 (by decide) rfl ?_
      refine AO.gno rfl rfl rfl rfl rfl rfl hg2 (by decide) rfl ?_
      refine AO.gno rfl rfl rfl rfl rfl rfl hg2 (by decide) rfl ?_
      refine AO.gno rfl rfl rfl rfl rfl rfl hg2 (by decide) rfl ?_
      refine AO.gno rfl rfl rfl rfl rfl rfl hg2 (by decide) rfl ?_
      refine AO.xs rfl rfl rfl (XS.pickF rfl rfl hg2) ?_
      refine AO.xs rfl rfl rfl (XS.assign rfl) ?_
      refine AO.nil ?_
      refine AW.ret ?_
      exact ⟨_, rfl, congrArg boolD (eqP_no (fun h => hg2n h.2.1)).symm⟩
  · skip
    have hg1n := eqP_false.1 hg1
    refine AO.gno rfl rfl rfl rfl rfl rfl hg1 (by decide) rfl ?_
    refine AO.gno rfl rfl rfl rfl rfl rfl hg1 (by decide) rfl ?_
    refine AO.xs rfl rfl rfl (XS.pickF rfl rfl hg1) ?_
    refine AO.xs rfl rfl rfl (XS.move rfl) ?_
    refine AO.gno rfl rfl rfl rfl rfl rfl rfl (by decide) rfl ?_
    refine AO.gno rfl rfl rfl rfl rfl rfl rfl (by decide) rfl ?_
    refine AO.gno rfl rfl rfl rfl rfl rfl rfl (by decide) rfl ?_
    refine AO.gno rfl rfl rfl rfl rfl rfl rfl (by decide) rfl ?_
    refine AO.gno rfl rfl rfl rfl rfl rfl rfl (by decide) rfl ?_
    refine AO.gno rfl rfl rfl rfl rfl rfl rfl (by decide) rfl ?_
    refine AO.xs rfl rfl rfl (XS.pickF rfl rfl rfl) ?_
    refine AO.xs rfl rfl rfl (XS.assign rfl) ?_
    refine AO.nil ?_
    refine AW.ret ?_
    exact ⟨_, rfl, congrArg boolD (eqP_no (fun h => hg1n h.1)).symm⟩


theorem nl64_one : nl 18446744073709551616 1 ≤ 1 := (nl_le (by decide)).2 (by decide)
theorem nl24_one : nl 16777216 1 ≤ 1 := (nl_le (by decide)).2 (by decide)
def modsOk (p : ByteArray) (xs : List ByteArray) : Prop := modOk p ∧ ∀ x ∈ xs, restOk x p

set_option maxRecDepth 100000 in
theorem modulus_c {p : ByteArray} {xs : List ByteArray} (hp : p.size ≤ 1048576) (hn : xs.length ≤ 1048576) : AC Try.prog 92 [strD p, strsD xs] (fun d => d = .tu [natD (sel (modsOk p xs) (beN p)), boolD (eqP (modsOk p xs))]) := by
  refine AC.intro Try.func92 Try.ntmps92 Try.results92 rfl (by simp) (fun w0 T => ?_)
  have n1 := nl64_size p
  have n2 := nl64_one
  refine AW.seq ?_
  refine AW.region ?_
  refine AO.xs rfl rfl rfl (XS.assign rfl) ?_
  refine AO.xs rfl rfl rfl (XS.assign rfl) ?_
  refine AO.nil ?_
  refine AW.seq ?_
  refine AW.region ?_
  refine AO.xs rfl rfl rfl (XS.move rfl) ?_
  refine AO.xs rfl rfl rfl (XS.call rfl (by kernel_rfl) rfl (natOf_c (by omega))) ?_
  refine AO.xs rfl rfl rfl (XS.assign rfl) ?_
  refine AO.nil ?_
  refine AW.seq ?_
  refine AW.seq ?_
  refine AW.region ?_
  refine AO.xs rfl rfl rfl (XS.move rfl) ?_
  refine AO.xs rfl rfl rfl (XS.call rfl (by kernel_rfl) rfl greatOkI_c) ?_
  refine AO.xs rfl rfl rfl (XS.not rfl) ?_
  refine AO.xs rfl rfl rfl (XS.move rfl) ?_
  refine AO.split 14 rfl (fun hg1 => ?_) (fun hg1 => ?_)
  · skip
    have hg1n := eqP_false.1 (notT hg1)
    refine AO.gno rfl rfl rfl rfl rfl rfl hg1 (by decide) rfl ?_
    refine AO.gno rfl rfl rfl rfl rfl rfl hg1 (by decide) rfl ?_
    refine AO.gno rfl rfl rfl rfl rfl rfl hg1 (by decide) rfl ?_
    refine AO.gno rfl rfl rfl rfl rfl rfl hg1 (by decide) rfl ?_
    refine AO.xs rfl rfl rfl (XS.pickT rfl rfl hg1) ?_
    refine AO.nil ?_
    refine AW.condT rfl rfl ?_
    refine AW.seq ?_
    refine AW.region ?_
    refine AO.xs rfl rfl rfl (XS.assign rfl) ?_
    refine AO.xs rfl rfl rfl (XS.assign rfl) ?_
    refine AO.nil ?_
    refine AW.ret ?_
    exact ⟨_, rfl, tu_no (fun h => hg1n h.1.1) (beN p)⟩
  · skip
    have hg1n := eqP_iff.1 (notF hg1)
    refine AO.gyes rfl rfl rfl rfl rfl rfl hg1 rfl (XS.move rfl) ?_
    refine AO.gyes rfl rfl rfl rfl rfl rfl hg1 rfl (XS.call rfl (by kernel_rfl) rfl (small_c (n := 1) (by decide))) ?_
    refine AO.gyes rfl rfl rfl rfl rfl rfl hg1 rfl (XS.call rfl (by kernel_rfl) rfl (cmp_c (by omega) (by omega))) ?_
    refine AO.gyes rfl rfl rfl rfl rfl rfl hg1 rfl (XS.int rfl rfl rfl) ?_
    refine AO.xs rfl rfl rfl (XS.pickF rfl rfl hg1) ?_
    refine AO.nil ?_
    refine AW.cond rfl (fun hb2 => ?_) (fun hb2 => ?_)
    · skip
      replace hb2 := of_decide_eq_true hb2
      refine AW.seq ?_
      refine AW.region ?_
      refine AO.xs rfl rfl rfl (XS.assign rfl) ?_
      refine AO.xs rfl rfl rfl (XS.assign rfl) ?_
      refine AO.nil ?_
      refine AW.ret ?_
      exact ⟨_, rfl, tu_no (fun h => by have := (cmpN_gt (b := 18446744073709551616) (by decide)).2 h.1.2; omega) (beN p)⟩
    · skip
      replace hb2 := of_decide_eq_false hb2
      refine AW.skip ?_
      refine AW.seq ?_
      refine AW.seq ?_
      refine AW.region ?_
      refine AO.xs rfl rfl rfl (XS.move rfl) ?_
      refine AO.xs rfl rfl rfl (XS.lenM rfl (el rfl)) ?_
      refine AO.xs rfl rfl rfl (XS.move rfl) ?_
      refine AO.nil ?_
      refine AW.block ?_
      refine AW.loop [0, 6, 20, 21] (fun i => [(22, .d (intD ((i : Nat) : Int)))]) (fun _ => _) (fun i => i ≤ xs.length ∧ ∀ x ∈ xs.take i, restOk x p) (fun i => xs.length - i) (0) ⟨Nat.zero_le _, by simp⟩ ⟨rfl, trivial⟩ ⟨⟨_, rfl, rfl⟩, ⟨_, rfl, rfl⟩, ⟨_, rfl, rfl⟩, ⟨_, rfl, rfl⟩, trivial⟩ rfl ?_
      intro i ⟨hi, hk⟩
      refine AW.seq ?_
      refine AW.region ?_
      refine AO.xs rfl rfl rfl (XS.int rfl rfl rfl) ?_
      refine AO.nil ?_
      refine AW.seq ?_
      refine AW.cond rfl (fun hb3 => ?_) (fun hb3 => ?_)
      · skip
        replace hb3 := of_decide_eq_true hb3
        refine AW.skip ?_
        refine AW.seq ?_
        refine AW.block ?_
        refine AW.seq ?_
        refine AW.region ?_
        refine AO.xs rfl rfl rfl (XS.indexM rfl rfl (el rfl) (by omega) rfl) ?_
        refine AO.xs rfl rfl rfl (XS.loadE rfl (on rfl) rfl) ?_
        refine AO.xs rfl rfl rfl (XS.assign rfl) ?_
        refine AO.nil ?_
        refine AW.seq ?_
        refine AW.region ?_
        refine AO.xs rfl rfl rfl (XS.move rfl) ?_
        refine AO.xs rfl rfl rfl (XS.move rfl) ?_
        refine AO.xs rfl rfl rfl (XS.call rfl (by kernel_rfl) rfl restOkI_c) ?_
        refine AO.xs rfl rfl rfl (XS.not rfl) ?_
        refine AO.nil ?_
        refine AW.cond rfl (fun hb4 => ?_) (fun hb4 => ?_)
        · skip
          replace hb4 := eqP_false.1 (notT hb4)
          refine AW.seq ?_
          refine AW.region ?_
          refine AO.xs rfl rfl rfl (XS.assign rfl) ?_
          refine AO.xs rfl rfl rfl (XS.assign rfl) ?_
          refine AO.nil ?_
          refine AW.ret ?_
          exact ⟨_, rfl, tu_no (fun h => hb4 (h.2 _ (List.getElem_mem (by omega)))) (beN p)⟩
        · skip
          replace hb4 := eqP_iff.1 (notF hb4)
          refine AW.skip ?_
          refine AW.region ?_
          refine AO.xs rfl rfl rfl (XS.addN (n := 1) rfl rfl (by omega)) ?_
          refine AO.xs rfl rfl rfl (XS.move rfl) ?_
          refine AO.nil ?_
          exact ⟨i + 1, ⟨by omega, all_next (by omega) hk hb4⟩, (by dsimp only; omega), ⟨rfl, trivial⟩, ⟨⟨_, rfl, rfl⟩, ⟨_, rfl, rfl⟩, ⟨_, rfl, rfl⟩, ⟨_, rfl, rfl⟩, trivial⟩, rfl⟩
      · skip
        replace hb3 := of_decide_eq_false hb3
        refine AW.exit ?_
        refine AW.seq ?_
        refine AW.region ?_
        refine AO.xs rfl rfl rfl (XS.move rfl) ?_
        refine AO.xs rfl rfl rfl (XS.assign rfl) ?_
        refine AO.xs rfl rfl rfl (XS.assign rfl) ?_
        refine AO.nil ?_
        refine AW.ret ?_
        exact ⟨_, rfl, tu_yes ⟨⟨hg1n, (cmpN_gt (b := 18446744073709551616) (by decide)).1 (by omega)⟩, all_done (by omega) hk⟩ _⟩


theorem modulus0_c {p : ByteArray} (hp : p.size ≤ 1048576) : AC Try.prog 92 [strD p, .sl []] (fun d => d = .tu [natD (sel (modOk p) (beN p)), boolD (eqP (modOk p))]) :=
  (modulus_c (xs := []) hp (by simp)).mono fun d h => by
    have e : modsOk p [] = modOk p := propext ⟨fun h => h.1, fun h => ⟨h, by simp⟩⟩
    rw [h, e]


theorem mod_one {p : ByteArray} (h : greatOk p) (h0 : p ≠ ⟨#[]⟩) : eqP (p ≠ ⟨#[1]⟩) = eqP (modOk p) := by
  have h1 : canon ⟨#[1]⟩ := fun _ => (by decide : (1 : UInt8) ≠ 0)
  have h2 : beN ⟨#[1]⟩ = 1 := rfl
  refine eqP_congr ⟨fun h3 => ⟨h, ?_⟩, fun h3 e => ?_⟩
  · have h4 := mt (beN_zero h.2).1 h0
    have h5 := mt (beN_inj h.2 h1).1 h3
    omega
  · subst e; have := h3.2; omega

set_option maxRecDepth 100000 in
theorem l04Mod_c {p : ByteArray} : AC Try.prog 87 [strD p] (fun d => d = boolD (eqP (modOk p))) := by
  refine AC.intro Try.func87 Try.ntmps87 Try.results87 rfl (by simp) (fun w0 T => ?_)
  refine AW.seq ?_
  refine AW.region ?_
  refine AO.xs rfl rfl rfl (XS.assign rfl) ?_
  refine AO.nil ?_
  refine AW.seq ?_
  refine AW.region ?_
  refine AO.xs rfl rfl rfl (XS.move rfl) ?_
  refine AO.xs rfl rfl rfl (XS.call rfl (by kernel_rfl) rfl greatOkS_c) ?_
  refine AO.xs rfl rfl rfl (XS.move rfl) ?_
  refine AO.split 5 rfl (fun hg1 => ?_) (fun hg1 => ?_)
  · skip
    have hg1n := eqP_iff.1 hg1
    refine AO.gyes rfl rfl rfl rfl rfl rfl hg1 rfl (XS.move rfl) ?_
    refine AO.gyes rfl rfl rfl rfl rfl rfl hg1 rfl (XS.strNe rfl rfl) ?_
    refine AO.xs rfl rfl rfl (XS.pickT rfl rfl hg1) ?_
    refine AO.xs rfl rfl rfl (XS.move rfl) ?_
    refine AO.split 9 rfl (fun hg2 => ?_) (fun hg2 => ?_)
    · skip
      have hg2n := eqP_iff.1 hg2
      refine AO.gyes rfl rfl rfl rfl rfl rfl hg2 rfl (XS.move rfl) ?_
      refine AO.gyes rfl rfl rfl rfl rfl rfl hg2 rfl (XS.strNe rfl rfl) ?_
      refine AO.xs rfl rfl rfl (XS.pickT rfl rfl hg2) ?_
      refine AO.xs rfl rfl rfl (XS.assign rfl) ?_
      refine AO.nil ?_
      refine AW.ret ?_
      exact ⟨_, rfl, congrArg boolD (mod_one hg1n hg2n)⟩
    · skip
      have hg2n := eqP_false.1 hg2
      refine AO.gno rfl rfl rfl rfl rfl rfl hg2 (by decide) rfl ?_
      refine AO.gno rfl rfl rfl rfl rfl rfl hg2 (by decide) rfl ?_
      refine AO.xs rfl rfl rfl (XS.pickF rfl rfl hg2) ?_
      refine AO.xs rfl rfl rfl (XS.assign rfl) ?_
      refine AO.nil ?_
      refine AW.ret ?_
      exact ⟨_, rfl, congrArg boolD (eqP_no (fun h => hg2n (fun e => by subst e; have := h.2; simp [beN_empty] at this))).symm⟩
  · skip
    have hg1n := eqP_false.1 hg1
    refine AO.gno rfl rfl rfl rfl rfl rfl hg1 (by decide) rfl ?_
    refine AO.gno rfl rfl rfl rfl rfl rfl hg1 (by decide) rfl ?_
    refine AO.xs rfl rfl rfl (XS.pickF rfl rfl hg1) ?_
    refine AO.xs rfl rfl rfl (XS.move rfl) ?_
    refine AO.gno rfl rfl rfl rfl rfl rfl rfl (by decide) rfl ?_
    refine AO.gno rfl rfl rfl rfl rfl rfl rfl (by decide) rfl ?_
    refine AO.xs rfl rfl rfl (XS.pickF rfl rfl rfl) ?_
    refine AO.xs rfl rfl rfl (XS.assign rfl) ?_
    refine AO.nil ?_
    refine AW.ret ?_
    exact ⟨_, rfl, congrArg boolD (eqP_no (fun h => hg1n h.1)).symm⟩

set_option maxRecDepth 100000 in
theorem sub_c {p a b : Nat} (hp : p < P160) (ha : a < p) (hb : b < p) : AC Try.prog 127 [natD p, natD a, natD b] (fun d => d = natD (subM p a b)) := by
  refine AC.intro Try.func127 Try.ntmps127 Try.results127 rfl (by simp) (fun w0 T => ?_)
  have n1 := nl_20 hp
  have n2 := nl_mono (b := 18446744073709551616) (by decide) (Nat.le_of_lt ha)
  have n3 := nl_mono (b := 18446744073709551616) (by decide) (Nat.le_of_lt hb)
  have n4 := nl_add (b := 18446744073709551616) (m := a) (n := p) (by decide)
  refine AW.seq ?_
  refine AW.region ?_
  refine AO.xs rfl rfl rfl (XS.assign rfl) ?_
  refine AO.nil ?_
  refine AW.seq ?_
  refine AW.seq ?_
  refine AW.region ?_
  refine AO.xs rfl rfl rfl (XS.move rfl) ?_
  refine AO.xs rfl rfl rfl (XS.move rfl) ?_
  refine AO.xs rfl rfl rfl (XS.call rfl (by kernel_rfl) rfl (cmp_c (by omega) (by omega))) ?_
  have k1 := cmpN_lt (b := 18446744073709551616) (m := a) (n := b) (by decide)
  refine AO.xs rfl rfl rfl (XS.int rfl rfl rfl) ?_
  refine AO.nil ?_
  refine AW.cond rfl (fun hb1 => ?_) (fun hb1 => ?_)
  · skip
    replace hb1 := of_decide_eq_true hb1
    refine AW.seq ?_
    refine AW.region ?_
    refine AO.xs rfl rfl rfl (XS.move rfl) ?_
    refine AO.xs rfl rfl rfl (XS.move rfl) ?_
    refine AO.xs rfl rfl rfl (XS.call rfl (by kernel_rfl) rfl (less_c (by omega) (by omega) (by omega))) ?_
    refine AO.xs rfl rfl rfl (XS.assign rfl) ?_
    refine AO.nil ?_
    refine AW.ret ?_
    exact ⟨_, rfl, congrArg natD (by unfold subM; rw [if_pos (by omega)])⟩
  · skip
    replace hb1 := of_decide_eq_false hb1
    refine AW.skip ?_
    refine AW.seq ?_
    refine AW.region ?_
    refine AO.xs rfl rfl rfl (XS.move rfl) ?_
    refine AO.xs rfl rfl rfl (XS.move rfl) ?_
    refine AO.xs rfl rfl rfl (XS.call rfl (by kernel_rfl) rfl (plus_c (by omega) (by omega))) ?_
    refine AO.xs rfl rfl rfl (XS.move rfl) ?_
    refine AO.xs rfl rfl rfl (XS.call rfl (by kernel_rfl) rfl (less_c (by omega) (by omega) (by omega))) ?_
    refine AO.xs rfl rfl rfl (XS.assign rfl) ?_
    refine AO.nil ?_
    refine AW.ret ?_
    exact ⟨_, rfl, congrArg natD (by unfold subM; rw [if_neg (by omega)])⟩

set_option maxRecDepth 100000 in
theorem l04Sub_c {p a b : Nat} (hp : p < P160) (ha : a < p) (hb : b < p) : AC Try.prog 126 [limD a, limD b, limD p] (fun d => d = limD (subM p a b)) := by
  refine AC.intro Try.func126 Try.ntmps126 Try.results126 rfl (by simp) (fun w0 T => ?_)
  have n1 := nl_54 hp
  have n2 := nl_mono (b := 16777216) (by decide) (Nat.le_of_lt ha)
  have n3 := nl_mono (b := 16777216) (by decide) (Nat.le_of_lt hb)
  have n4 := nl_add (b := 16777216) (m := a) (n := p) (by decide)
  refine AW.seq ?_
  refine AW.region ?_
  refine AO.xs rfl rfl rfl (XS.assign rfl) ?_
  refine AO.nil ?_
  refine AW.seq ?_
  refine AW.seq ?_
  refine AW.region ?_
  refine AO.xs rfl rfl rfl (XS.move rfl) ?_
  refine AO.xs rfl rfl rfl (XS.move rfl) ?_
  refine AO.xs rfl rfl rfl (XS.call rfl (by kernel_rfl) rfl (l02Cmp_c (by omega) (by omega))) ?_
  have k1 := sgN_lt (m := a) (n := b)
  refine AO.xs rfl rfl rfl (XS.int rfl rfl rfl) ?_
  refine AO.nil ?_
  refine AW.cond rfl (fun hb1 => ?_) (fun hb1 => ?_)
  · skip
    replace hb1 := of_decide_eq_true hb1
    refine AW.seq ?_
    refine AW.region ?_
    refine AO.xs rfl rfl rfl (XS.move rfl) ?_
    refine AO.xs rfl rfl rfl (XS.move rfl) ?_
    refine AO.xs rfl rfl rfl (XS.call rfl (by kernel_rfl) rfl (l02Add_c (by omega) (by omega))) ?_
    refine AO.xs rfl rfl rfl (XS.move rfl) ?_
    refine AO.xs rfl rfl rfl (XS.call rfl (by kernel_rfl) rfl (l02Sub_c (by omega) (by omega) (by omega))) ?_
    refine AO.xs rfl rfl rfl (XS.assign rfl) ?_
    refine AO.nil ?_
    refine AW.ret ?_
    exact ⟨_, rfl, congrArg limD (by unfold subM; rw [if_neg (by omega)])⟩
  · skip
    replace hb1 := of_decide_eq_false hb1
    refine AW.skip ?_
    refine AW.seq ?_
    refine AW.region ?_
    refine AO.xs rfl rfl rfl (XS.move rfl) ?_
    refine AO.xs rfl rfl rfl (XS.move rfl) ?_
    refine AO.xs rfl rfl rfl (XS.call rfl (by kernel_rfl) rfl (l02Sub_c (by omega) (by omega) (by omega))) ?_
    refine AO.xs rfl rfl rfl (XS.assign rfl) ?_
    refine AO.nil ?_
    refine AW.ret ?_
    exact ⟨_, rfl, congrArg limD (by unfold subM; rw [if_pos (by omega)])⟩


def prsD (xs : List Pr) : Dv := .sl (xs.map Pr.cs)
def restsOk (x : Pr) (p : ByteArray) : Prop := restOk x.a p ∧ restOk x.b p
def prOk (x : Pr) (p : ByteArray) : Prop := modOk p ∧ restsOk x p
def pairsOk (p : ByteArray) (xs : List Pr) : Prop := modOk p ∧ ∀ x ∈ xs, restsOk x p
noncomputable def selPr (P : Prop) (x : Pr) : Pr := @ite _ P (Classical.propDecidable P) x ⟨⟨#[]⟩, ⟨#[]⟩⟩
theorem selPr_yes {P : Prop} (h : P) (n : Pr) : selPr P n = n := @if_pos P (Classical.propDecidable P) h _ _ _
theorem selPr_no {P : Prop} (h : ¬ P) (n : Pr) : selPr P n = ⟨⟨#[]⟩, ⟨#[]⟩⟩ := @if_neg P (Classical.propDecidable P) h _ _ _
def npD (a b : Nat) : Dv := .ag [natD a, natD b]
def lpD (a b : Nat) : Dv := .ag [limD a, limD b]
theorem prs_A {p : ByteArray} {xs : List Pr} {i : Nat} (hi : i < xs.length) (h1 : pairsOk p (xs.take i)) (h2 : restOk xs[i].a p) : boolD (eqP (restOk xs[i].b p)) = boolD (eqP (pairsOk p (xs.take (i + 1)))) :=
  congrArg boolD (eqP_congr ⟨fun h => ⟨h1.1, all_next hi h1.2 ⟨h2, h⟩⟩, fun h => (h.2 xs[i] (by rw [List.take_succ_eq_append_getElem hi]; exact List.mem_append_right _ (List.mem_singleton.2 rfl))).2⟩)
theorem prs_B {p : ByteArray} {xs : List Pr} {i : Nat} (hi : i < xs.length) (h2 : ¬ restOk xs[i].a p) : boolD false = boolD (eqP (pairsOk p (xs.take (i + 1)))) :=
  congrArg boolD (eqP_no fun h => h2 (h.2 xs[i] (by rw [List.take_succ_eq_append_getElem hi]; exact List.mem_append_right _ (List.mem_singleton.2 rfl))).1).symm
theorem prs_C {p : ByteArray} {xs : List Pr} {i : Nat} (hi : i < xs.length) (h1 : ¬ pairsOk p (xs.take i)) : boolD false = boolD (eqP (pairsOk p (xs.take (i + 1)))) :=
  congrArg boolD (eqP_no fun h => h1 ⟨h.1, fun x hx => h.2 x (by rw [List.take_succ_eq_append_getElem hi]; exact List.mem_append_left _ hx)⟩).symm
theorem pairs_0 {p : ByteArray} : pairsOk p [] = modOk p := propext ⟨fun h => h.1, fun h => ⟨h, by simp⟩⟩

set_option maxRecDepth 100000 in
theorem pairs_c {p : ByteArray} {xs : List Pr} (hp : p.size ≤ 1048576) (hn : xs.length ≤ 1048576) : AC Try.prog 63 [strD p, prsD xs] (fun d => d = .tu [natD (sel (modOk p) (beN p)), boolD (eqP (pairsOk p xs))]) := by
  refine AC.intro Try.func63 Try.ntmps63 Try.results63 rfl (by simp) (fun w0 T => ?_)
  refine AW.seq ?_
  refine AW.region ?_
  refine AO.xs rfl rfl rfl (XS.assign rfl) ?_
  refine AO.xs rfl rfl rfl (XS.assign rfl) ?_
  refine AO.nil ?_
  refine AW.seq ?_
  refine AW.region ?_
  refine AO.xs rfl rfl rfl (XS.move rfl) ?_
  refine AO.xs rfl rfl rfl (XS.call rfl (by kernel_rfl) rfl (modulus0_c hp)) ?_
  refine AO.xs rfl rfl rfl (XS.move rfl) ?_
  refine AO.xs rfl rfl rfl (XS.extract rfl rfl) ?_
  refine AO.xs rfl rfl rfl (XS.extract rfl rfl) ?_
  refine AO.xs rfl rfl rfl (XS.assign rfl) ?_
  refine AO.xs rfl rfl rfl (XS.assign rfl) ?_
  refine AO.nil ?_
  refine AW.seq ?_
  refine AW.seq ?_
  refine AW.region ?_
  refine AO.xs rfl rfl rfl (XS.move rfl) ?_
  refine AO.xs rfl rfl rfl (XS.lenM rfl (el rfl)) ?_
  refine AO.xs rfl rfl rfl (XS.move rfl) ?_
  refine AO.nil ?_
  refine AW.block ?_
  refine AW.loop [0, 4, 5, 6, 15, 16] (fun i => [(7, .d (boolD (eqP (pairsOk p (xs.take i))))), (17, .d (intD ((i : Nat) : Int)))]) (fun _ => _) (fun i => i ≤ xs.length) (fun i => xs.length - i) (0) (Nat.zero_le _) ⟨lk_D rfl (congrArg (fun z => boolD (eqP z)) (by rw [List.take_zero, pairs_0])), rfl, trivial⟩ ⟨⟨_, rfl, rfl⟩, ⟨_, rfl, rfl⟩, ⟨_, rfl, rfl⟩, ⟨_, rfl, rfl⟩, ⟨_, rfl, rfl⟩, ⟨_, rfl, rfl⟩, trivial⟩ rfl ?_
  intro i hi
  refine AW.seq ?_
  refine AW.region ?_
  refine AO.xs rfl rfl rfl (XS.int rfl rfl rfl) ?_
  refine AO.nil ?_
  refine AW.seq ?_
  refine AW.cond rfl (fun hb1 => ?_) (fun hb1 => ?_)
  · skip
    replace hb1 := of_decide_eq_true hb1
    refine AW.skip ?_
    refine AW.seq ?_
    refine AW.block ?_
    refine AW.seq ?_
    refine AW.region ?_
    refine AO.xs rfl rfl rfl (XS.indexM rfl rfl (el rfl) (by omega) rfl) ?_
    refine AO.xs rfl rfl rfl (XS.loadEA rfl (ro rfl) (sz rfl) (Nat.le_of_ble_eq_true rfl)) ?_
    refine AO.alloc rfl rfl (ze rfl) ?_
    refine AO.store rfl rfl rfl rfl (sz rfl) rfl rfl rfl rfl ?_
    refine AO.nil ?_
    refine AW.region ?_
    refine AO.xs rfl rfl rfl (XS.move rfl) ?_
    refine AO.xs rfl rfl rfl (XS.move rfl) ?_
    refine AO.split 22 rfl (fun hg2 => ?_) (fun hg2 => ?_)
    · skip
      have hg2n := eqP_iff.1 hg2
      refine AO.gyes rfl rfl rfl rfl rfl rfl hg2 rfl (XS.field rfl (fo rfl)) ?_
      refine AO.gyes rfl rfl rfl rfl rfl rfl hg2 rfl (XS.load rfl (on rfl) rfl rfl) ?_
      refine AO.gyes rfl rfl rfl rfl rfl rfl hg2 rfl (XS.move rfl) ?_
      refine AO.gyes rfl rfl rfl rfl rfl rfl hg2 rfl (XS.call rfl (by kernel_rfl) rfl restOkI_c) ?_
      refine AO.xs rfl rfl rfl (XS.pickT rfl rfl hg2) ?_
      refine AO.xs rfl rfl rfl (XS.move rfl) ?_
      refine AO.split 28 rfl (fun hg3 => ?_) (fun hg3 => ?_)
      · skip
        have hg3n := eqP_iff.1 hg3
        refine AO.gyes rfl rfl rfl rfl rfl rfl hg3 rfl (XS.field rfl (fo rfl)) ?_
        refine AO.gyes rfl rfl rfl rfl rfl rfl hg3 rfl (XS.load rfl (on rfl) rfl rfl) ?_
        refine AO.gyes rfl rfl rfl rfl rfl rfl hg3 rfl (XS.move rfl) ?_
        refine AO.gyes rfl rfl rfl rfl rfl rfl hg3 rfl (XS.call rfl (by kernel_rfl) rfl restOkI_c) ?_
        refine AO.xs rfl rfl rfl (XS.pickT rfl rfl hg3) ?_
        refine AO.xs rfl rfl rfl (XS.assign rfl) ?_
        refine AO.nil ?_
        refine AW.region ?_
        refine AO.trim 0 (Nat.zero_le _) (Nat.zero_le _) ?_
        refine AO.xs rfl rfl rfl (XS.addN (n := 1) rfl rfl (by omega)) ?_
        refine AO.xs rfl rfl rfl (XS.move rfl) ?_
        refine AO.nil ?_
        exact ⟨i + 1, (by omega), (by dsimp only; omega), ⟨lk_D rfl (prs_A (by omega) hg2n hg3n), rfl, trivial⟩, ⟨⟨_, rfl, rfl⟩, ⟨_, rfl, rfl⟩, ⟨_, rfl, rfl⟩, ⟨_, rfl, rfl⟩, ⟨_, rfl, rfl⟩, ⟨_, rfl, rfl⟩, trivial⟩, rfl⟩
      · skip
        have hg3n := eqP_false.1 hg3
        refine AO.gno rfl rfl rfl rfl rfl rfl hg3 (by decide) rfl ?_
        refine AO.gno rfl rfl rfl rfl rfl rfl hg3 (by decide) rfl ?_
        refine AO.gno rfl rfl rfl rfl rfl rfl hg3 (by decide) rfl ?_
        refine AO.gno rfl rfl rfl rfl rfl rfl hg3 (by decide) rfl ?_
        refine AO.xs rfl rfl rfl (XS.pickF rfl rfl hg3) ?_
        refine AO.xs rfl rfl rfl (XS.assign rfl) ?_
        refine AO.nil ?_
        refine AW.region ?_
        refine AO.trim 0 (Nat.zero_le _) (Nat.zero_le _) ?_
        refine AO.xs rfl rfl rfl (XS.addN (n := 1) rfl rfl (by omega)) ?_
        refine AO.xs rfl rfl rfl (XS.move rfl) ?_
        refine AO.nil ?_
        exact ⟨i + 1, (by omega), (by dsimp only; omega), ⟨lk_D rfl (prs_B (by omega) hg3n), rfl, trivial⟩, ⟨⟨_, rfl, rfl⟩, ⟨_, rfl, rfl⟩, ⟨_, rfl, rfl⟩, ⟨_, rfl, rfl⟩, ⟨_, rfl, rfl⟩, ⟨_, rfl, rfl⟩, trivial⟩, rfl⟩
    · skip
      have hg2n := eqP_false.1 hg2
      refine AO.gno rfl rfl rfl rfl rfl rfl hg2 (by decide) rfl ?_
      refine AO.gno rfl rfl rfl rfl rfl rfl hg2 (by decide) rfl ?_
      refine AO.gno rfl rfl rfl rfl rfl rfl hg2 (by decide) rfl ?_
      refine AO.gno rfl rfl rfl rfl rfl rfl hg2 (by decide) rfl ?_
      refine AO.xs rfl rfl rfl (XS.pickF rfl rfl hg2) ?_
      refine AO.xs rfl rfl rfl (XS.move rfl) ?_
      refine AO.gno rfl rfl rfl rfl rfl rfl rfl (by decide) rfl ?_
      refine AO.gno rfl rfl rfl rfl rfl rfl rfl (by decide) rfl ?_
      refine AO.gno rfl rfl rfl rfl rfl rfl rfl (by decide) rfl ?_
      refine AO.gno rfl rfl rfl rfl rfl rfl rfl (by decide) rfl ?_
      refine AO.xs rfl rfl rfl (XS.pickF rfl rfl rfl) ?_
      refine AO.xs rfl rfl rfl (XS.assign rfl) ?_
      refine AO.nil ?_
      refine AW.region ?_
      refine AO.trim 0 (Nat.zero_le _) (Nat.zero_le _) ?_
      refine AO.xs rfl rfl rfl (XS.addN (n := 1) rfl rfl (by omega)) ?_
      refine AO.xs rfl rfl rfl (XS.move rfl) ?_
      refine AO.nil ?_
      exact ⟨i + 1, (by omega), (by dsimp only; omega), ⟨lk_D rfl (prs_C (by omega) hg2n), rfl, trivial⟩, ⟨⟨_, rfl, rfl⟩, ⟨_, rfl, rfl⟩, ⟨_, rfl, rfl⟩, ⟨_, rfl, rfl⟩, ⟨_, rfl, rfl⟩, ⟨_, rfl, rfl⟩, trivial⟩, rfl⟩
  · skip
    replace hb1 := of_decide_eq_false hb1
    refine AW.exit ?_
    refine AW.seq ?_
    refine AW.region ?_
    refine AO.xs rfl rfl rfl (XS.move rfl) ?_
    refine AO.xs rfl rfl rfl (XS.move rfl) ?_
    refine AO.xs rfl rfl rfl (XS.assign rfl) ?_
    refine AO.xs rfl rfl rfl (XS.assign rfl) ?_
    refine AO.nil ?_
    refine AW.ret ?_
    obtain rfl : i = xs.length := by omega
    rw [List.take_length]
    exact ⟨_, rfl, rfl⟩

set_option maxRecDepth 100000 in
theorem pairOf_c {x : Pr} (h1 : x.a.size ≤ 1048576) (h2 : x.b.size ≤ 1048576) : AC Try.prog 65 [.ag x.cs] (fun d => d = npD (beN x.a) (beN x.b)) := by
  refine AC.intro Try.func65 Try.ntmps65 Try.results65 rfl (by simp) (fun w0 T => ?_)
  refine AW.seq ?_
  refine AW.region ?_
  refine AO.box rfl rfl rfl rfl ?_
  refine AO.alloc rfl rfl (ze rfl) ?_
  refine AO.nil ?_
  refine AW.seq ?_
  refine AW.drawn mix ?_
  refine DC.cons rfl rfl rfl (XS.field rfl (fo rfl)) ?_
  refine DC.cons rfl rfl rfl (XS.load rfl (on rfl) rfl rfl) ?_
  refine DC.cons rfl rfl rfl (XS.call rfl (by kernel_rfl) rfl (natOf_c (by omega))) ?_
  refine DC.cons rfl rfl rfl (XS.field rfl (fo rfl)) ?_
  refine DC.cons rfl rfl rfl (XS.load rfl (on rfl) rfl rfl) ?_
  refine DC.cons rfl rfl rfl (XS.call rfl (by kernel_rfl) rfl (natOf_c (by omega))) ?_
  refine DC.cons rfl rfl rfl (XS.build (ze rfl) (pl rfl) rfl rfl) ?_
  refine DC.done (by kernel_rfl) ?_
  refine AO.store rfl rfl rfl rfl (sz rfl) rfl rfl rfl rfl ?_
  refine AO.nil ?_
  refine AW.ret ?_
  exact ⟨_, rfl, rfl⟩

set_option maxRecDepth 100000 in
theorem told_c {a b : Nat} (h1 : a < P160) (h2 : b < P160) : AC Try.prog 66 [npD a b] (fun d => d = .ag (Pr.cs ⟨strN a, strN b⟩)) := by
  refine AC.intro Try.func66 Try.ntmps66 Try.results66 rfl (by simp) (fun w0 T => ?_)
  have n1 := nl_20 h1
  have n2 := nl_20 h2
  refine AW.seq ?_
  refine AW.region ?_
  refine AO.box rfl rfl rfl rfl ?_
  refine AO.alloc rfl rfl (ze rfl) ?_
  refine AO.nil ?_
  refine AW.seq ?_
  refine AW.drawn mix ?_
  refine DC.cons rfl rfl rfl (XS.field rfl (fo rfl)) ?_
  refine DC.cons rfl rfl rfl (XS.load rfl (on rfl) rfl rfl) ?_
  refine DC.cons rfl rfl rfl (XS.call rfl (by kernel_rfl) rfl (text_c (by omega))) ?_
  refine DC.cons rfl rfl rfl (XS.field rfl (fo rfl)) ?_
  refine DC.cons rfl rfl rfl (XS.load rfl (on rfl) rfl rfl) ?_
  refine DC.cons rfl rfl rfl (XS.call rfl (by kernel_rfl) rfl (text_c (by omega))) ?_
  refine DC.cons rfl rfl rfl (XS.build (ze rfl) (pl rfl) rfl rfl) ?_
  refine DC.done (by kernel_rfl) ?_
  refine AO.store rfl rfl rfl rfl (sz rfl) rfl rfl rfl rfl ?_
  refine AO.nil ?_
  refine AW.ret ?_
  exact ⟨_, rfl, rfl⟩

set_option maxRecDepth 100000 in
theorem sub2_c {p a b e f : Nat} (hp : p < P160) (ha : a < p) (hb : b < p) (he : e < p) (hf : f < p) : AC Try.prog 89 [natD p, npD a b, npD e f] (fun d => d = npD (subM p a e) (subM p b f)) := by
  refine AC.intro Try.func89 Try.ntmps89 Try.results89 rfl (by simp) (fun w0 T => ?_)
  refine AW.seq ?_
  refine AW.region ?_
  refine AO.box rfl rfl rfl rfl ?_
  refine AO.box rfl rfl rfl rfl ?_
  refine AO.alloc rfl rfl (ze rfl) ?_
  refine AO.nil ?_
  refine AW.seq ?_
  refine AW.drawn mix ?_
  refine DC.cons rfl rfl rfl (XS.move rfl) ?_
  refine DC.cons rfl rfl rfl (XS.field rfl (fo rfl)) ?_
  refine DC.cons rfl rfl rfl (XS.load rfl (on rfl) rfl rfl) ?_
  refine DC.cons rfl rfl rfl (XS.field rfl (fo rfl)) ?_
  refine DC.cons rfl rfl rfl (XS.load rfl (on rfl) rfl rfl) ?_
  refine DC.cons rfl rfl rfl (XS.call rfl (by kernel_rfl) rfl (sub_c hp (by assumption) (by assumption))) ?_
  refine DC.cons rfl rfl rfl (XS.move rfl) ?_
  refine DC.cons rfl rfl rfl (XS.field rfl (fo rfl)) ?_
  refine DC.cons rfl rfl rfl (XS.load rfl (on rfl) rfl rfl) ?_
  refine DC.cons rfl rfl rfl (XS.field rfl (fo rfl)) ?_
  refine DC.cons rfl rfl rfl (XS.load rfl (on rfl) rfl rfl) ?_
  refine DC.cons rfl rfl rfl (XS.call rfl (by kernel_rfl) rfl (sub_c hp (by assumption) (by assumption))) ?_
  refine DC.cons rfl rfl rfl (XS.build (ze rfl) (pl rfl) rfl rfl) ?_
  refine DC.done (by kernel_rfl) ?_
  refine AO.store rfl rfl rfl rfl (sz rfl) rfl rfl rfl rfl ?_
  refine AO.nil ?_
  refine AW.ret ?_
  exact ⟨_, rfl, rfl⟩

set_option maxRecDepth 100000 in
theorem pairOkS_c {x : Pr} {p : ByteArray} : AC Try.prog 33 [.ag x.cs, strD p] (fun d => d = boolD (eqP (prOk x p))) := by
  refine AC.intro Try.func33 Try.ntmps33 Try.results33 rfl (by simp) (fun w0 T => ?_)
  refine AW.seq ?_
  refine AW.region ?_
  refine AO.box rfl rfl rfl rfl ?_
  refine AO.xs rfl rfl rfl (XS.assign rfl) ?_
  refine AO.nil ?_
  refine AW.seq ?_
  refine AW.region ?_
  refine AO.xs rfl rfl rfl (XS.move rfl) ?_
  refine AO.xs rfl rfl rfl (XS.call rfl (by kernel_rfl) rfl l04Mod_c) ?_
  refine AO.xs rfl rfl rfl (XS.move rfl) ?_
  refine AO.split 7 rfl (fun hg1 => ?_) (fun hg1 => ?_)
  · skip
    have hg1n := eqP_iff.1 hg1
    refine AO.gyes rfl rfl rfl rfl rfl rfl hg1 rfl (XS.field rfl (fo rfl)) ?_
    refine AO.gyes rfl rfl rfl rfl rfl rfl hg1 rfl (XS.load rfl (on rfl) rfl rfl) ?_
    refine AO.gyes rfl rfl rfl rfl rfl rfl hg1 rfl (XS.move rfl) ?_
    refine AO.gyes rfl rfl rfl rfl rfl rfl hg1 rfl (XS.call rfl (by kernel_rfl) rfl restOkS_c) ?_
    refine AO.xs rfl rfl rfl (XS.pickT rfl rfl hg1) ?_
    refine AO.xs rfl rfl rfl (XS.move rfl) ?_
    refine AO.split 13 rfl (fun hg2 => ?_) (fun hg2 => ?_)
    · skip
      have hg2n := eqP_iff.1 hg2
      refine AO.gyes rfl rfl rfl rfl rfl rfl hg2 rfl (XS.field rfl (fo rfl)) ?_
      refine AO.gyes rfl rfl rfl rfl rfl rfl hg2 rfl (XS.load rfl (on rfl) rfl rfl) ?_
      refine AO.gyes rfl rfl rfl rfl rfl rfl hg2 rfl (XS.move rfl) ?_
      refine AO.gyes rfl rfl rfl rfl rfl rfl hg2 rfl (XS.call rfl (by kernel_rfl) rfl restOkS_c) ?_
      refine AO.xs rfl rfl rfl (XS.pickT rfl rfl hg2) ?_
      refine AO.xs rfl rfl rfl (XS.assign rfl) ?_
      refine AO.nil ?_
      refine AW.ret ?_
      exact ⟨_, rfl, congrArg boolD (eqP_congr ⟨fun h => ⟨hg1n, hg2n, h⟩, fun h => h.2.2⟩)⟩
    · skip
      have hg2n := eqP_false.1 hg2
      refine AO.gno rfl rfl rfl rfl rfl rfl hg2 (by decide) rfl ?_
      refine AO.gno rfl rfl rfl rfl rfl rfl hg2 (by decide) rfl ?_
      refine AO.gno rfl rfl rfl rfl rfl rfl hg2 (by decide) rfl ?_
      refine AO.gno rfl rfl rfl rfl rfl rfl hg2 (by decide) rfl ?_
      refine AO.xs rfl rfl rfl (XS.pickF rfl rfl hg2) ?_
      refine AO.xs rfl rfl rfl (XS.assign rfl) ?_
      refine AO.nil ?_
      refine AW.ret ?_
      exact ⟨_, rfl, congrArg boolD (eqP_no (fun h => hg2n h.2.1)).symm⟩
  · skip
    have hg1n := eqP_false.1 hg1
    refine AO.gno rfl rfl rfl rfl rfl rfl hg1 (by decide) rfl ?_
    refine AO.gno rfl rfl rfl rfl rfl rfl hg1 (by decide) rfl ?_
    refine AO.gno rfl rfl rfl rfl rfl rfl hg1 (by decide) rfl ?_
    refine AO.gno rfl rfl rfl rfl rfl rfl hg1 (by decide) rfl ?_
    refine AO.xs rfl rfl rfl (XS.pickF rfl rfl hg1) ?_
    refine AO.xs rfl rfl rfl (XS.move rfl) ?_
    refine AO.gno rfl rfl rfl rfl rfl rfl rfl (by decide) rfl ?_
    refine AO.gno rfl rfl rfl rfl rfl rfl rfl (by decide) rfl ?_
    refine AO.gno rfl rfl rfl rfl rfl rfl rfl (by decide) rfl ?_
    refine AO.gno rfl rfl rfl rfl rfl rfl rfl (by decide) rfl ?_
    refine AO.xs rfl rfl rfl (XS.pickF rfl rfl rfl) ?_
    refine AO.xs rfl rfl rfl (XS.assign rfl) ?_
    refine AO.nil ?_
    refine AW.ret ?_
    exact ⟨_, rfl, congrArg boolD (eqP_no (fun h => hg1n h.1)).symm⟩

set_option maxRecDepth 100000 in
theorem l07In_c {x : Pr} (h1 : x.a.size ≤ 1048576) (h2 : x.b.size ≤ 1048576) : AC Try.prog 61 [.ag x.cs] (fun d => d = lpD (beN x.a) (beN x.b)) := by
  refine AC.intro Try.func61 Try.ntmps61 Try.results61 rfl (by simp) (fun w0 T => ?_)
  refine AW.seq ?_
  refine AW.region ?_
  refine AO.box rfl rfl rfl rfl ?_
  refine AO.alloc rfl rfl (ze rfl) ?_
  refine AO.nil ?_
  refine AW.seq ?_
  refine AW.drawn mix ?_
  refine DC.cons rfl rfl rfl (XS.field rfl (fo rfl)) ?_
  refine DC.cons rfl rfl rfl (XS.load rfl (on rfl) rfl rfl) ?_
  refine DC.cons rfl rfl rfl (XS.call rfl (by kernel_rfl) rfl (l02In_c (by omega))) ?_
  refine DC.cons rfl rfl rfl (XS.field rfl (fo rfl)) ?_
  refine DC.cons rfl rfl rfl (XS.load rfl (on rfl) rfl rfl) ?_
  refine DC.cons rfl rfl rfl (XS.call rfl (by kernel_rfl) rfl (l02In_c (by omega))) ?_
  refine DC.cons rfl rfl rfl (XS.build (ze rfl) (pl rfl) rfl rfl) ?_
  refine DC.done (by kernel_rfl) ?_
  refine AO.store rfl rfl rfl rfl (sz rfl) rfl rfl rfl rfl ?_
  refine AO.nil ?_
  refine AW.ret ?_
  exact ⟨_, rfl, rfl⟩

set_option maxRecDepth 100000 in
theorem l07Out_c {a b : Nat} (h1 : a < P160) (h2 : b < P160) : AC Try.prog 59 [lpD a b] (fun d => d = .ag (Pr.cs ⟨strN a, strN b⟩)) := by
  refine AC.intro Try.func59 Try.ntmps59 Try.results59 rfl (by simp) (fun w0 T => ?_)
  have n1 := nl_54 h1
  have n2 := nl_54 h2
  refine AW.seq ?_
  refine AW.region ?_
  refine AO.box rfl rfl rfl rfl ?_
  refine AO.alloc rfl rfl (ze rfl) ?_
  refine AO.nil ?_
  refine AW.seq ?_
  refine AW.drawn mix ?_
  refine DC.cons rfl rfl rfl (XS.field rfl (fo rfl)) ?_
  refine DC.cons rfl rfl rfl (XS.load rfl (on rfl) rfl rfl) ?_
  refine DC.cons rfl rfl rfl (XS.call rfl (by kernel_rfl) rfl (l02Out_c (by omega))) ?_
  refine DC.cons rfl rfl rfl (XS.field rfl (fo rfl)) ?_
  refine DC.cons rfl rfl rfl (XS.load rfl (on rfl) rfl rfl) ?_
  refine DC.cons rfl rfl rfl (XS.call rfl (by kernel_rfl) rfl (l02Out_c (by omega))) ?_
  refine DC.cons rfl rfl rfl (XS.build (ze rfl) (pl rfl) rfl rfl) ?_
  refine DC.done (by kernel_rfl) ?_
  refine AO.store rfl rfl rfl rfl (sz rfl) rfl rfl rfl rfl ?_
  refine AO.nil ?_
  refine AW.ret ?_
  exact ⟨_, rfl, rfl⟩

set_option maxRecDepth 100000 in
theorem l07Sub_c {p a b e f : Nat} (hp : p < P160) (ha : a < p) (hb : b < p) (he : e < p) (hf : f < p) : AC Try.prog 125 [lpD a b, lpD e f, limD p] (fun d => d = lpD (subM p a e) (subM p b f)) := by
  refine AC.intro Try.func125 Try.ntmps125 Try.results125 rfl (by simp) (fun w0 T => ?_)
  refine AW.seq ?_
  refine AW.region ?_
  refine AO.box rfl rfl rfl rfl ?_
  refine AO.box rfl rfl rfl rfl ?_
  refine AO.alloc rfl rfl (ze rfl) ?_
  refine AO.nil ?_
  refine AW.seq ?_
  refine AW.drawn mix ?_
  refine DC.cons rfl rfl rfl (XS.field rfl (fo rfl)) ?_
  refine DC.cons rfl rfl rfl (XS.load rfl (on rfl) rfl rfl) ?_
  refine DC.cons rfl rfl rfl (XS.field rfl (fo rfl)) ?_
  refine DC.cons rfl rfl rfl (XS.load rfl (on rfl) rfl rfl) ?_
  refine DC.cons rfl rfl rfl (XS.move rfl) ?_
  refine DC.cons rfl rfl rfl (XS.call rfl (by kernel_rfl) rfl (l04Sub_c hp (by assumption) (by assumption))) ?_
  refine DC.cons rfl rfl rfl (XS.field rfl (fo rfl)) ?_
  refine DC.cons rfl rfl rfl (XS.load rfl (on rfl) rfl rfl) ?_
  refine DC.cons rfl rfl rfl (XS.field rfl (fo rfl)) ?_
  refine DC.cons rfl rfl rfl (XS.load rfl (on rfl) rfl rfl) ?_
  refine DC.cons rfl rfl rfl (XS.move rfl) ?_
  refine DC.cons rfl rfl rfl (XS.call rfl (by kernel_rfl) rfl (l04Sub_c hp (by assumption) (by assumption))) ?_
  refine DC.cons rfl rfl rfl (XS.build (ze rfl) (pl rfl) rfl rfl) ?_
  refine DC.done (by kernel_rfl) ?_
  refine AO.store rfl rfl rfl rfl (sz rfl) rfl rfl rfl rfl ?_
  refine AO.nil ?_
  refine AW.ret ?_
  exact ⟨_, rfl, rfl⟩


theorem prs_two {x y : Pr} {p : ByteArray} : pairsOk p [x, y] ↔ prOk x p ∧ prOk y p := by
  unfold pairsOk prOk
  constructor
  · intro h; exact ⟨⟨h.1, h.2 x (by simp)⟩, ⟨h.1, h.2 y (by simp)⟩⟩
  · rintro ⟨h1, h2⟩
    refine ⟨h1.1, fun z hz => ?_⟩
    rcases List.mem_cons.1 hz with rfl | hz
    · exact h1.2
    · rw [List.mem_singleton.1 hz]; exact h2.2
theorem prs_one {x : Pr} {p : ByteArray} : pairsOk p [x] ↔ prOk x p := ⟨fun h => ⟨h.1, h.2 x (by simp)⟩, fun h => ⟨h.1, fun z hz => by rw [List.mem_singleton.1 hz]; exact h.2⟩⟩
/-- What a right modulus, and a right pair of it, come to. -/
theorem prOk.p {x : Pr} {p : ByteArray} (h : prOk x p) : beN p < P160 := beN_great h.1.1
theorem prOk.a {x : Pr} {p : ByteArray} (h : prOk x p) : beN x.a < beN p := h.2.1.2.2
theorem prOk.b {x : Pr} {p : ByteArray} (h : prOk x p) : beN x.b < beN p := h.2.2.2.2
theorem prOk.sa {x : Pr} {p : ByteArray} (h : prOk x p) : x.a.size ≤ 160 := h.2.1.1.1
theorem prOk.sb {x : Pr} {p : ByteArray} (h : prOk x p) : x.b.size ≤ 160 := h.2.2.1.1
theorem prOk.sp {x : Pr} {p : ByteArray} (h : prOk x p) : p.size ≤ 160 := h.1.1.1
noncomputable def subPr (x y : Pr) (p : ByteArray) : Pr := selPr (prOk x p ∧ prOk y p) ⟨strN (subM (beN p) (beN x.a) (beN y.a)), strN (subM (beN p) (beN x.b) (beN y.b))⟩
theorem pr_no {P : Prop} (h : ¬ P) (n : Pr) : Dv.ag [strD ⟨#[]⟩, strD ⟨#[]⟩] = .ag (selPr P n).cs := by rw [selPr_no h]; rfl
theorem pr_yes {P : Prop} (h : P) (n : Pr) : Dv.ag n.cs = .ag (selPr P n).cs := by rw [selPr_yes h]

set_option maxRecDepth 100000 in
theorem subPairI_c {x y : Pr} {p : ByteArray} (hp : p.size ≤ 1048576) : AC Try.prog 36 [.ag x.cs, .ag y.cs, strD p] (fun d => d = .ag (subPr x y p).cs) := by
  refine AC.intro Try.func36 Try.ntmps36 Try.results36 rfl (by simp) (fun w0 T => ?_)
  refine AW.seq ?_
  refine AW.region ?_
  refine AO.box rfl rfl rfl rfl ?_
  refine AO.box rfl rfl rfl rfl ?_
  refine AO.alloc rfl rfl (ze rfl) ?_
  refine AO.nil ?_
  refine AW.seq ?_
  refine AW.region ?_
  refine AO.xs rfl rfl rfl (XS.move rfl) ?_
  refine AO.xs rfl rfl rfl (XS.loadA rfl (ro rfl) (sz rfl) rfl (Nat.le_of_ble_eq_true rfl)) ?_
  refine AO.xs rfl rfl rfl (XS.loadA rfl (ro rfl) (sz rfl) rfl (Nat.le_of_ble_eq_true rfl)) ?_
  refine AO.xs rfl rfl rfl (XS.buildSlice (ap rfl) rfl rfl rfl (by decide)) ?_
  refine AO.xs rfl rfl rfl (XS.call rfl (by kernel_rfl) rfl (pairs_c (xs := [x, y]) hp (by simp))) ?_
  refine AO.xs rfl rfl rfl (XS.move rfl) ?_
  refine AO.xs rfl rfl rfl (XS.extract rfl rfl) ?_
  refine AO.xs rfl rfl rfl (XS.extract rfl rfl) ?_
  refine AO.xs rfl rfl rfl (XS.assign rfl) ?_
  refine AO.xs rfl rfl rfl (XS.assign rfl) ?_
  refine AO.nil ?_
  refine AW.seq ?_
  refine AW.seq ?_
  refine AW.region ?_
  refine AO.xs rfl rfl rfl (XS.move rfl) ?_
  refine AO.xs rfl rfl rfl (XS.not rfl) ?_
  refine AO.nil ?_
  refine AW.cond rfl (fun hb1 => ?_) (fun hb1 => ?_)
  · skip
    replace hb1 := eqP_false.1 (notT hb1)
    refine AW.seq ?_
    refine AW.region ?_
    refine AO.xs rfl rfl rfl (XS.build (ze rfl) (pl rfl) rfl rfl) ?_
    refine AO.store rfl rfl rfl rfl (sz rfl) rfl rfl rfl rfl ?_
    refine AO.nil ?_
    refine AW.ret ?_
    exact ⟨_, rfl, pr_no (fun h => hb1 (prs_two.2 h)) _⟩
  · skip
    replace hb1 := eqP_iff.1 (notF hb1)
    obtain ⟨hx, hy⟩ := prs_two.1 hb1
    have hq := hx.p
    have z1 := hx.sa
    have z2 := hx.sb
    have z3 := hy.sa
    have z4 := hy.sb
    refine AW.tell 7 rfl (congrArg natD (sel_yes hx.1 _)) ?_
    refine AW.skip ?_
    refine AW.seq ?_
    refine AW.drawn mix ?_
    refine DC.cons rfl rfl rfl (XS.move rfl) ?_
    refine DC.cons rfl rfl rfl (XS.loadA rfl (ro rfl) (sz rfl) rfl (Nat.le_of_ble_eq_true rfl)) ?_
    refine DC.cons rfl rfl rfl (XS.call rfl (by kernel_rfl) rfl (pairOf_c (by omega) (by omega))) ?_
    refine DC.cons rfl rfl rfl (XS.loadA rfl (ro rfl) (sz rfl) rfl (Nat.le_of_ble_eq_true rfl)) ?_
    refine DC.cons rfl rfl rfl (XS.call rfl (by kernel_rfl) rfl (pairOf_c (by omega) (by omega))) ?_
    refine DC.cons rfl rfl rfl (XS.call rfl (by kernel_rfl) rfl (sub2_c hq hx.a hx.b hy.a hy.b)) ?_
    refine DC.cons rfl rfl rfl (XS.call rfl (by kernel_rfl) rfl (told_c (Nat.lt_trans (subM_lt hx.a hy.a) hq) (Nat.lt_trans (subM_lt hx.b hy.b) hq))) ?_
    refine DC.done (by kernel_rfl) ?_
    refine AO.store rfl rfl rfl rfl (sz rfl) rfl rfl rfl rfl ?_
    refine AO.nil ?_
    refine AW.ret ?_
    exact ⟨_, rfl, pr_yes ⟨hx, hy⟩ _⟩

set_option maxRecDepth 100000 in
theorem subPairS_c {x y : Pr} {p : ByteArray} : AC Try.prog 67 [.ag x.cs, .ag y.cs, strD p] (fun d => d = .ag (subPr x y p).cs) := by
  refine AC.intro Try.func67 Try.ntmps67 Try.results67 rfl (by simp) (fun w0 T => ?_)
  refine AW.seq ?_
  refine AW.region ?_
  refine AO.box rfl rfl rfl rfl ?_
  refine AO.box rfl rfl rfl rfl ?_
  refine AO.alloc rfl rfl (ze rfl) ?_
  refine AO.nil ?_
  refine AW.seq ?_
  refine AW.seq ?_
  refine AW.region ?_
  refine AO.xs rfl rfl rfl (XS.loadA rfl (ro rfl) (sz rfl) rfl (Nat.le_of_ble_eq_true rfl)) ?_
  refine AO.xs rfl rfl rfl (XS.move rfl) ?_
  refine AO.xs rfl rfl rfl (XS.call rfl (by kernel_rfl) rfl (pairOkS_c (x := x))) ?_
  refine AO.xs rfl rfl rfl (XS.not rfl) ?_
  refine AO.xs rfl rfl rfl (XS.move rfl) ?_
  refine AO.split 11 rfl (fun hg1 => ?_) (fun hg1 => ?_)
  · skip
    have hg1n := eqP_false.1 (notT hg1)
    refine AO.gno rfl rfl rfl rfl rfl rfl hg1 (by decide) rfl ?_
    refine AO.gno rfl rfl rfl rfl rfl rfl hg1 (by decide) rfl ?_
    refine AO.gno rfl rfl rfl rfl rfl rfl hg1 (by decide) rfl ?_
    refine AO.gno rfl rfl rfl rfl rfl rfl hg1 (by decide) rfl ?_
    refine AO.xs rfl rfl rfl (XS.pickT rfl rfl hg1) ?_
    refine AO.nil ?_
    refine AW.condT rfl rfl ?_
    refine AW.seq ?_
    refine AW.region ?_
    refine AO.xs rfl rfl rfl (XS.build (ze rfl) (pl rfl) rfl rfl) ?_
    refine AO.store rfl rfl rfl rfl (sz rfl) rfl rfl rfl rfl ?_
    refine AO.nil ?_
    refine AW.ret ?_
    exact ⟨_, rfl, pr_no (fun h => hg1n h.1) _⟩
  · skip
    have hg1n := eqP_iff.1 (notF hg1)
    refine AO.gyes rfl rfl rfl rfl rfl rfl hg1 rfl (XS.loadA rfl (ro rfl) (sz rfl) rfl (Nat.le_of_ble_eq_true rfl)) ?_
    refine AO.gyes rfl rfl rfl rfl rfl rfl hg1 rfl (XS.move rfl) ?_
    refine AO.gyes rfl rfl rfl rfl rfl rfl hg1 rfl (XS.call rfl (by kernel_rfl) rfl (pairOkS_c (x := y))) ?_
    refine AO.gyes rfl rfl rfl rfl rfl rfl hg1 rfl (XS.not rfl) ?_
    refine AO.xs rfl rfl rfl (XS.pickF rfl rfl hg1) ?_
    refine AO.nil ?_
    refine AW.cond rfl (fun hb2 => ?_) (fun hb2 => ?_)
    · skip
      replace hb2 := eqP_false.1 (notT hb2)
      refine AW.seq ?_
      refine AW.region ?_
      refine AO.xs rfl rfl rfl (XS.build (ze rfl) (pl rfl) rfl rfl) ?_
      refine AO.store rfl rfl rfl rfl (sz rfl) rfl rfl rfl rfl ?_
      refine AO.nil ?_
      refine AW.ret ?_
      exact ⟨_, rfl, pr_no (fun h => hb2 h.2) _⟩
    · skip
      replace hb2 := eqP_iff.1 (notF hb2)
      have hx := hg1n
      have hy := hb2
      have hq := hx.p
      have z1 := hx.sa
      have z2 := hx.sb
      have z3 := hy.sa
      have z4 := hy.sb
      have z5 := hx.sp
      refine AW.skip ?_
      refine AW.seq ?_
      refine AW.drawn mix ?_
      refine DC.cons rfl rfl rfl (XS.loadA rfl (ro rfl) (sz rfl) rfl (Nat.le_of_ble_eq_true rfl)) ?_
      refine DC.cons rfl rfl rfl (XS.call rfl (by kernel_rfl) rfl (l07In_c (by omega) (by omega))) ?_
      refine DC.cons rfl rfl rfl (XS.loadA rfl (ro rfl) (sz rfl) rfl (Nat.le_of_ble_eq_true rfl)) ?_
      refine DC.cons rfl rfl rfl (XS.call rfl (by kernel_rfl) rfl (l07In_c (by omega) (by omega))) ?_
      refine DC.cons rfl rfl rfl (XS.move rfl) ?_
      refine DC.cons rfl rfl rfl (XS.call rfl (by kernel_rfl) rfl (l02In_c (by omega))) ?_
      refine DC.cons rfl rfl rfl (XS.call rfl (by kernel_rfl) rfl (l07Sub_c hq hx.a hx.b hy.a hy.b)) ?_
      refine DC.cons rfl rfl rfl (XS.call rfl (by kernel_rfl) rfl (l07Out_c (Nat.lt_trans (subM_lt hx.a hy.a) hq) (Nat.lt_trans (subM_lt hx.b hy.b) hq))) ?_
      refine DC.done (by kernel_rfl) ?_
      refine AO.store rfl rfl rfl rfl (sz rfl) rfl rfl rfl rfl ?_
      refine AO.nil ?_
      refine AW.ret ?_
      exact ⟨_, rfl, pr_yes ⟨hx, hy⟩ _⟩

end Go.Proofs.Ytgafdhpagifpcaa.C
