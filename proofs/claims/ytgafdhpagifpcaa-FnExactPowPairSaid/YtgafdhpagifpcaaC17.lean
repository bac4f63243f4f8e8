/-
  OWN WORK, printed by wip/tools/gen.py out of the translation and of the contracts in wip/specs.
-/
import Derived.Test.YtgafdhpagifpcaaC13
import Derived.Test.YtgafdhpagifpcaaAvK
namespace Go.Proofs.Ytgafdhpagifpcaa.C
open Go Go.RowKit Go.Proofs.Ytgafdhpagifpcaa.Av Go.Proofs.Ytgafdhpagifpcaa.Ty Go.Proofs.Ytgafdhpagifpcaa.Num
set_option linter.unusedVariables false


def addM (p a b : Nat) : Nat := if a + b < p then a + b else a + b - p
theorem addM_lt {p a b : Nat} (ha : a < p) (hb : b < p) : addM p a b < p := by unfold addM; split <;> omega
theorem lt160 {a p : Nat} (h : a < p) (hp : p < P160) : a < P160 := Nat.lt_trans h hp

set_option maxRecDepth 100000 in
theorem add_c {p a b : Nat} (hp : p < P160) (ha : a < p) (hb : b < p) : AC Try.prog 124 [natD p, natD a, natD b] (fun d => d = natD (addM p a b)) := by
  refine AC.intro Try.func124 Try.ntmps124 Try.results124 rfl (by simp) (fun w0 T => ?_)
  have n1 := nl_20 hp
  have n2 := nl_mono (b := 18446744073709551616) (by decide) (Nat.le_of_lt ha)
  have n3 := nl_mono (b := 18446744073709551616) (by decide) (Nat.le_of_lt hb)
  have n4 := nl_add (b := 18446744073709551616) (m := a) (n := b) (by decide)
  refine AW.seq ?_
  refine AW.region ?_
  refine AO.xs rfl rfl rfl (XS.assign rfl) ?_
  refine AO.nil ?_
  refine AW.seq ?_
  refine AW.region ?_
  refine AO.xs rfl rfl rfl (XS.move rfl) ?_
  refine AO.xs rfl rfl rfl (XS.move rfl) ?_
  refine AO.xs rfl rfl rfl (XS.call rfl (by kernel_rfl) rfl (plus_c (by omega) (by omega))) ?_
  refine AO.xs rfl rfl rfl (XS.assign rfl) ?_
  refine AO.nil ?_
  refine AW.seq ?_
  refine AW.seq ?_
  refine AW.region ?_
  refine AO.xs rfl rfl rfl (XS.move rfl) ?_
  refine AO.xs rfl rfl rfl (XS.move rfl) ?_
  refine AO.xs rfl rfl rfl (XS.call rfl (by kernel_rfl) rfl (cmp_c (by omega) (by omega))) ?_
  have k1 := cmpN_lt (b := 18446744073709551616) (m := a + b) (n := p) (by decide)
  refine AO.xs rfl rfl rfl (XS.int rfl rfl rfl) ?_
  refine AO.nil ?_
  refine AW.cond rfl (fun hb1 => ?_) (fun hb1 => ?_)
  · skip
    replace hb1 := of_decide_eq_true hb1
    refine AW.seq ?_
    refine AW.region ?_
    refine AO.xs rfl rfl rfl (XS.move rfl) ?_
    refine AO.xs rfl rfl rfl (XS.move rfl) ?_
    refine AO.xs rfl rfl rfl (XS.call rfl (by kernel_rfl) rfl (less_c (by omega) (by omega) (by omega))) ?_
    refine AO.xs rfl rfl rfl (XS.assign rfl) ?_
    refine AO.nil ?_
    refine AW.ret ?_
    exact ⟨_, rfl, congrArg natD (by unfold addM; rw [if_neg (by omega)])⟩
  · skip
    replace hb1 := of_decide_eq_false hb1
    refine AW.skip ?_
    refine AW.seq ?_
    refine AW.region ?_
    refine AO.xs rfl rfl rfl (XS.move rfl) ?_
    refine AO.xs rfl rfl rfl (XS.assign rfl) ?_
    refine AO.nil ?_
    refine AW.ret ?_
    exact ⟨_, rfl, congrArg natD (by unfold addM; rw [if_pos (by omega)])⟩

set_option maxRecDepth 100000 in
theorem l04Add_c {p a b : Nat} (hp : p < P160) (ha : a < p) (hb : b < p) : AC Try.prog 122 [limD a, limD b, limD p] (fun d => d = limD (addM p a b)) := by
  refine AC.intro Try.func122 Try.ntmps122 Try.results122 rfl (by simp) (fun w0 T => ?_)
  have n1 := nl_54 hp
  have n2 := nl_mono (b := 16777216) (by decide) (Nat.le_of_lt ha)
  have n3 := nl_mono (b := 16777216) (by decide) (Nat.le_of_lt hb)
  have n4 := nl_add (b := 16777216) (m := a) (n := b) (by decide)
  refine AW.seq ?_
  refine AW.region ?_
  refine AO.xs rfl rfl rfl (XS.assign rfl) ?_
  refine AO.nil ?_
  refine AW.seq ?_
  refine AW.region ?_
  refine AO.xs rfl rfl rfl (XS.move rfl) ?_
  refine AO.xs rfl rfl rfl (XS.move rfl) ?_
  refine AO.xs rfl rfl rfl (XS.call rfl (by kernel_rfl) rfl (l02Add_c (by omega) (by omega))) ?_
  refine AO.xs rfl rfl rfl (XS.assign rfl) ?_
  refine AO.nil ?_
  refine AW.seq ?_
  refine AW.seq ?_
  refine AW.region ?_
  refine AO.xs rfl rfl rfl (XS.move rfl) ?_
  refine AO.xs rfl rfl rfl (XS.move rfl) ?_
  refine AO.xs rfl rfl rfl (XS.call rfl (by kernel_rfl) rfl (l02Cmp_c (by omega) (by omega))) ?_
  have k1 := sgN_lt (m := a + b) (n := p)
  refine AO.xs rfl rfl rfl (XS.int rfl rfl rfl) ?_
  refine AO.nil ?_
  refine AW.cond rfl (fun hb1 => ?_) (fun hb1 => ?_)
  · skip
    replace hb1 := of_decide_eq_true hb1
    refine AW.seq ?_
    refine AW.region ?_
    refine AO.xs rfl rfl rfl (XS.move rfl) ?_
    refine AO.xs rfl rfl rfl (XS.move rfl) ?_
    refine AO.xs rfl rfl rfl (XS.call rfl (by kernel_rfl) rfl (l02Sub_c (by omega) (by omega) (by omega))) ?_
    refine AO.xs rfl rfl rfl (XS.assign rfl) ?_
    refine AO.nil ?_
    refine AW.ret ?_
    exact ⟨_, rfl, congrArg limD (by unfold addM; rw [if_neg (by omega)])⟩
  · skip
    replace hb1 := of_decide_eq_false hb1
    refine AW.skip ?_
    refine AW.seq ?_
    refine AW.region ?_
    refine AO.xs rfl rfl rfl (XS.move rfl) ?_
    refine AO.xs rfl rfl rfl (XS.assign rfl) ?_
    refine AO.nil ?_
    refine AW.ret ?_
    exact ⟨_, rfl, congrArg limD (by unfold addM; rw [if_pos (by omega)])⟩

set_option maxRecDepth 100000 in
theorem add2_c {p a b e f : Nat} (hp : p < P160) (ha : a < p) (hb : b < p) (he : e < p) (hf : f < p) : AC Try.prog 64 [natD p, npD a b, npD e f] (fun d => d = npD (addM p a e) (addM p b f)) := by
  refine AC.intro Try.func64 Try.ntmps64 Try.results64 rfl (by simp) (fun w0 T => ?_)
  refine AW.seq ?_
  refine AW.region ?_
  refine AO.box rfl rfl rfl rfl ?_
  refine AO.box rfl rfl rfl rfl ?_
  refine AO.alloc rfl rfl (ze rfl) ?_
  refine AO.nil ?_
  refine AW.seq ?_
  refine AW.drawn mix ?_
  refine DC.cons rfl rfl rfl (XS.move rfl) ?_
  refine DC.cons rfl rfl rfl (XS.field rfl (fo rfl)) ?_
  refine DC.cons rfl rfl rfl (XS.load rfl (on rfl) rfl rfl) ?_
  refine DC.cons rfl rfl rfl (XS.field rfl (fo rfl)) ?_
  refine DC.cons rfl rfl rfl (XS.load rfl (on rfl) rfl rfl) ?_
  refine DC.cons rfl rfl rfl (XS.call rfl (by kernel_rfl) rfl (add_c hp (by assumption) (by assumption))) ?_
  refine DC.cons rfl rfl rfl (XS.move rfl) ?_
  refine DC.cons rfl rfl rfl (XS.field rfl (fo rfl)) ?_
  refine DC.cons rfl rfl rfl (XS.load rfl (on rfl) rfl rfl) ?_
  refine DC.cons rfl rfl rfl (XS.field rfl (fo rfl)) ?_
  refine DC.cons rfl rfl rfl (XS.load rfl (on rfl) rfl rfl) ?_
  refine DC.cons rfl rfl rfl (XS.call rfl (by kernel_rfl) rfl (add_c hp (by assumption) (by assumption))) ?_
  refine DC.cons rfl rfl rfl (XS.build (ze rfl) (pl rfl) rfl rfl) ?_
  refine DC.done (by kernel_rfl) ?_
  refine AO.store rfl rfl rfl rfl (sz rfl) rfl rfl rfl rfl ?_
  refine AO.nil ?_
  refine AW.ret ?_
  exact ⟨_, rfl, rfl⟩

set_option maxRecDepth 100000 in
theorem l07Add_c {p a b e f : Nat} (hp : p < P160) (ha : a < p) (hb : b < p) (he : e < p) (hf : f < p) : AC Try.prog 60 [lpD a b, lpD e f, limD p] (fun d => d = lpD (addM p a e) (addM p b f)) := by
  refine AC.intro Try.func60 Try.ntmps60 Try.results60 rfl (by simp) (fun w0 T => ?_)
  refine AW.seq ?_
  refine AW.region ?_
  refine AO.box rfl rfl rfl rfl ?_
  refine AO.box rfl rfl rfl rfl ?_
  refine AO.alloc rfl rfl (ze rfl) ?_
  refine AO.nil ?_
  refine AW.seq ?_
  refine AW.drawn mix ?_
  refine DC.cons rfl rfl rfl (XS.field rfl (fo rfl)) ?_
  refine DC.cons rfl rfl rfl (XS.load rfl (on rfl) rfl rfl) ?_
  refine DC.cons rfl rfl rfl (XS.field rfl (fo rfl)) ?_
  refine DC.cons rfl rfl rfl (XS.load rfl (on rfl) rfl rfl) ?_
  refine DC.cons rfl rfl rfl (XS.move rfl) ?_
  refine DC.cons rfl rfl rfl (XS.call rfl (by kernel_rfl) rfl (l04Add_c hp (by assumption) (by assumption))) ?_
  refine DC.cons rfl rfl rfl (XS.field rfl (fo rfl)) ?_
  refine DC.cons rfl rfl rfl (XS.load rfl (on rfl) rfl rfl) ?_
  refine DC.cons rfl rfl rfl (XS.field rfl (fo rfl)) ?_
  refine DC.cons rfl rfl rfl (XS.load rfl (on rfl) rfl rfl) ?_
  refine DC.cons rfl rfl rfl (XS.move rfl) ?_
  refine DC.cons rfl rfl rfl (XS.call rfl (by kernel_rfl) rfl (l04Add_c hp (by assumption) (by assumption))) ?_
  refine DC.cons rfl rfl rfl (XS.build (ze rfl) (pl rfl) rfl rfl) ?_
  refine DC.done (by kernel_rfl) ?_
  refine AO.store rfl rfl rfl rfl (sz rfl) rfl rfl rfl rfl ?_
  refine AO.nil ?_
  refine AW.ret ?_
  exact ⟨_, rfl, rfl⟩


noncomputable def addPr (x y : Pr) (p : ByteArray) : Pr := selPr (prOk x p ∧ prOk y p) ⟨strN (addM (beN p) (beN x.a) (beN y.a)), strN (addM (beN p) (beN x.b) (beN y.b))⟩

set_option maxRecDepth 100000 in
theorem addPairI_c {x y : Pr} {p : ByteArray} (hp : p.size ≤ 1048576) : AC Try.prog 17 [.ag x.cs, .ag y.cs, strD p] (fun d => d = .ag (addPr x y p).cs) := by
  refine AC.intro Try.func17 Try.ntmps17 Try.results17 rfl (by simp) (fun w0 T => ?_)
  refine AW.seq ?_
  refine AW.region ?_
  refine AO.box rfl rfl rfl rfl ?_
  refine AO.box rfl rfl rfl rfl ?_
  refine AO.alloc rfl rfl (ze rfl) ?_
  refine AO.nil ?_
  refine AW.seq ?_
  refine AW.region ?_
  refine AO.xs rfl rfl rfl (XS.move rfl) ?_
  refine AO.xs rfl rfl rfl (XS.loadA rfl (ro rfl) (sz rfl) rfl (Nat.le_of_ble_eq_true rfl)) ?_
  refine AO.xs rfl rfl rfl (XS.loadA rfl (ro rfl) (sz rfl) rfl (Nat.le_of_ble_eq_true rfl)) ?_
  refine AO.xs rfl rfl rfl (XS.buildSlice (ap rfl) rfl rfl rfl (by decide)) ?_
  refine AO.xs rfl rfl rfl (XS.call rfl (by kernel_rfl) rfl (pairs_c (xs := [x, y]) hp (by simp))) ?_
  refine AO.xs rfl rfl rfl (XS.move rfl) ?_
  refine AO.xs rfl rfl rfl (XS.extract rfl rfl) ?_
  refine AO.xs rfl rfl rfl (XS.extract rfl rfl) ?_
  refine AO.xs rfl rfl rfl (XS.assign rfl) ?_
  refine AO.xs rfl rfl rfl (XS.assign rfl) ?_
  refine AO.nil ?_
  refine AW.seq ?_
  refine AW.seq ?_
  refine AW.region ?_
  refine AO.xs rfl rfl rfl (XS.move rfl) ?_
  refine AO.xs rfl rfl rfl (XS.not rfl) ?_
  refine AO.nil ?_
  refine AW.cond rfl (fun hb1 => ?_) (fun hb1 => ?_)
  · skip
    replace hb1 := eqP_false.1 (notT hb1)
    refine AW.seq ?_
    refine AW.region ?_
    refine AO.xs rfl rfl rfl (XS.build (ze rfl) (pl rfl) rfl rfl) ?_
    refine AO.store rfl rfl rfl rfl (sz rfl) rfl rfl rfl rfl ?_
    refine AO.nil ?_
    refine AW.ret ?_
    exact ⟨_, rfl, pr_no (fun h => hb1 (prs_two.2 h)) _⟩
  · skip
    replace hb1 := eqP_iff.1 (notF hb1)
    obtain ⟨hx, hy⟩ := prs_two.1 hb1
    have hq := hx.p
    have z1 := hx.sa
    have z2 := hx.sb
    have z3 := hy.sa
    have z4 := hy.sb
    have z5 := hx.sp
    refine AW.tell 7 rfl (congrArg natD (sel_yes hx.1 _)) ?_
    refine AW.skip ?_
    refine AW.seq ?_
    refine AW.drawn mix ?_
    refine DC.cons rfl rfl rfl (XS.move rfl) ?_
    refine DC.cons rfl rfl rfl (XS.loadA rfl (ro rfl) (sz rfl) rfl (Nat.le_of_ble_eq_true rfl)) ?_
    refine DC.cons rfl rfl rfl (XS.call rfl (by kernel_rfl) rfl (pairOf_c (by omega) (by omega))) ?_
    refine DC.cons rfl rfl rfl (XS.loadA rfl (ro rfl) (sz rfl) rfl (Nat.le_of_ble_eq_true rfl)) ?_
    refine DC.cons rfl rfl rfl (XS.call rfl (by kernel_rfl) rfl (pairOf_c (by omega) (by omega))) ?_
    refine DC.cons rfl rfl rfl (XS.call rfl (by kernel_rfl) rfl (add2_c hq hx.a hx.b hy.a hy.b)) ?_
    refine DC.cons rfl rfl rfl (XS.call rfl (by kernel_rfl) rfl (told_c (lt160 (addM_lt hx.a hy.a) hq) (lt160 (addM_lt hx.b hy.b) hq))) ?_
    refine DC.done (by kernel_rfl) ?_
    refine AO.store rfl rfl rfl rfl (sz rfl) rfl rfl rfl rfl ?_
    refine AO.nil ?_
    refine AW.ret ?_
    exact ⟨_, rfl, pr_yes ⟨hx, hy⟩ _⟩

set_option maxRecDepth 100000 in
theorem addPairS_c {x y : Pr} {p : ByteArray} : AC Try.prog 15 [.ag x.cs, .ag y.cs, strD p] (fun d => d = .ag (addPr x y p).cs) := by
  refine AC.intro Try.func15 Try.ntmps15 Try.results15 rfl (by simp) (fun w0 T => ?_)
  refine AW.seq ?_
  refine AW.region ?_
  refine AO.box rfl rfl rfl rfl ?_
  refine AO.box rfl rfl rfl rfl ?_
  refine AO.alloc rfl rfl (ze rfl) ?_
  refine AO.nil ?_
  refine AW.seq ?_
  refine AW.seq ?_
  refine AW.region ?_
  refine AO.xs rfl rfl rfl (XS.loadA rfl (ro rfl) (sz rfl) rfl (Nat.le_of_ble_eq_true rfl)) ?_
  refine AO.xs rfl rfl rfl (XS.move rfl) ?_
  refine AO.xs rfl rfl rfl (XS.call rfl (by kernel_rfl) rfl (pairOkS_c (x := x))) ?_
  refine AO.xs rfl rfl rfl (XS.not rfl) ?_
  refine AO.xs rfl rfl rfl (XS.move rfl) ?_
  refine AO.split 11 rfl (fun hg1 => ?_) (fun hg1 => ?_)
  · skip
    have hg1n := eqP_false.1 (notT hg1)
    refine AO.gno rfl rfl rfl rfl rfl rfl hg1 (by decide) rfl ?_
    refine AO.gno rfl rfl rfl rfl rfl rfl hg1 (by decide) rfl ?_
    refine AO.gno rfl rfl rfl rfl rfl rfl hg1 (by decide) rfl ?_
    refine AO.gno rfl rfl rfl rfl rfl rfl hg1 (by decide) rfl ?_
    refine AO.xs rfl rfl rfl (XS.pickT rfl rfl hg1) ?_
    refine AO.nil ?_
    refine AW.condT rfl rfl ?_
    refine AW.seq ?_
    refine AW.region ?_
    refine AO.xs rfl rfl rfl (XS.build (ze rfl) (pl rfl) rfl rfl) ?_
    refine AO.store rfl rfl rfl rfl (sz rfl) rfl rfl rfl rfl ?_
    refine AO.nil ?_
    refine AW.ret ?_
    exact ⟨_, rfl, pr_no (fun h => hg1n h.1) _⟩
  · skip
    have hg1n := eqP_iff.1 (notF hg1)
    refine AO.gyes rfl rfl rfl rfl rfl rfl hg1 rfl (XS.loadA rfl (ro rfl) (sz rfl) rfl (Nat.le_of_ble_eq_true rfl)) ?_
    refine AO.gyes rfl rfl rfl rfl rfl rfl hg1 rfl (XS.move rfl) ?_
    refine AO.gyes rfl rfl rfl rfl rfl rfl hg1 rfl (XS.call rfl (by kernel_rfl) rfl (pairOkS_c (x := y))) ?_
    refine AO.gyes rfl rfl rfl rfl rfl rfl hg1 rfl (XS.not rfl) ?_
    refine AO.xs rfl rfl rfl (XS.pickF rfl rfl hg1) ?_
    refine AO.nil ?_
    refine AW.cond rfl (fun hb2 => ?_) (fun hb2 => ?_)
    · skip
      replace hb2 := eqP_false.1 (notT hb2)
      refine AW.seq ?_
      refine AW.region ?_
      refine AO.xs rfl rfl rfl (XS.build (ze rfl) (pl rfl) rfl rfl) ?_
      refine AO.store rfl rfl rfl rfl (sz rfl) rfl rfl rfl rfl ?_
      refine AO.nil ?_
      refine AW.ret ?_
      exact ⟨_, rfl, pr_no (fun h => hb2 h.2) _⟩
    · skip
      replace hb2 := eqP_iff.1 (notF hb2)
      have hx := hg1n
      have hy := hb2
      have hq := hx.p
      have z1 := hx.sa
      have z2 := hx.sb
      have z3 := hy.sa
      have z4 := hy.sb
      have z5 := hx.sp
      refine AW.skip ?_
      refine AW.seq ?_
      refine AW.drawn mix ?_
      refine DC.cons rfl rfl rfl (XS.loadA rfl (ro rfl) (sz rfl) rfl (Nat.le_of_ble_eq_true rfl)) ?_
      refine DC.cons rfl rfl rfl (XS.call rfl (by kernel_rfl) rfl (l07In_c (by omega) (by omega))) ?_
      refine DC.cons rfl rfl rfl (XS.loadA rfl (ro rfl) (sz rfl) rfl (Nat.le_of_ble_eq_true rfl)) ?_
      refine DC.cons rfl rfl rfl (XS.call rfl (by kernel_rfl) rfl (l07In_c (by omega) (by omega))) ?_
      refine DC.cons rfl rfl rfl (XS.move rfl) ?_
      refine DC.cons rfl rfl rfl (XS.call rfl (by kernel_rfl) rfl (l02In_c (by omega))) ?_
      refine DC.cons rfl rfl rfl (XS.call rfl (by kernel_rfl) rfl (l07Add_c hq hx.a hx.b hy.a hy.b)) ?_
      refine DC.cons rfl rfl rfl (XS.call rfl (by kernel_rfl) rfl (l07Out_c (lt160 (addM_lt hx.a hy.a) hq) (lt160 (addM_lt hx.b hy.b) hq))) ?_
      refine DC.done (by kernel_rfl) ?_
      refine AO.store rfl rfl rfl rfl (sz rfl) rfl rfl rfl rfl ?_
      refine AO.nil ?_
      refine AW.ret ?_
      exact ⟨_, rfl, pr_yes ⟨hx, hy⟩ _⟩


def pr0 : Pr := ⟨⟨#[]⟩, ⟨#[]⟩⟩

set_option maxRecDepth 100000 in
theorem negPairI_c {x : Pr} {p : ByteArray} (hp : p.size ≤ 1048576) : AC Try.prog 20 [.ag x.cs, strD p] (fun d => d = .ag (subPr pr0 x p).cs) := by
  refine AC.intro Try.func20 Try.ntmps20 Try.results20 rfl (by simp) (fun w0 T => ?_)
  refine AW.seq ?_
  refine AW.region ?_
  refine AO.box rfl rfl rfl rfl ?_
  refine AO.alloc rfl rfl (ze rfl) ?_
  refine AO.nil ?_
  refine AW.seq ?_
  refine AW.region ?_
  refine AO.xs rfl rfl rfl (XS.build (ze rfl) (pl rfl) rfl rfl) ?_
  refine AO.xs rfl rfl rfl (XS.loadA rfl (ro rfl) (sz rfl) rfl (Nat.le_of_ble_eq_true rfl)) ?_
  refine AO.xs rfl rfl rfl (XS.move rfl) ?_
  refine AO.xs rfl rfl rfl (XS.call rfl (by kernel_rfl) rfl (subPairI_c (x := pr0) hp)) ?_
  refine AO.store rfl rfl rfl rfl (sz rfl) rfl rfl rfl rfl ?_
  refine AO.nil ?_
  refine AW.ret ?_
  exact ⟨_, rfl, rfl⟩

set_option maxRecDepth 100000 in
theorem negPairS_c {x : Pr} {p : ByteArray} : AC Try.prog 19 [.ag x.cs, strD p] (fun d => d = .ag (subPr pr0 x p).cs) := by
  refine AC.intro Try.func19 Try.ntmps19 Try.results19 rfl (by simp) (fun w0 T => ?_)
  refine AW.seq ?_
  refine AW.region ?_
  refine AO.box rfl rfl rfl rfl ?_
  refine AO.alloc rfl rfl (ze rfl) ?_
  refine AO.nil ?_
  refine AW.seq ?_
  refine AW.region ?_
  refine AO.xs rfl rfl rfl (XS.build (ze rfl) (pl rfl) rfl rfl) ?_
  refine AO.xs rfl rfl rfl (XS.loadA rfl (ro rfl) (sz rfl) rfl (Nat.le_of_ble_eq_true rfl)) ?_
  refine AO.xs rfl rfl rfl (XS.move rfl) ?_
  refine AO.xs rfl rfl rfl (XS.call rfl (by kernel_rfl) rfl (subPairS_c (x := pr0))) ?_
  refine AO.store rfl rfl rfl rfl (sz rfl) rfl rfl rfl rfl ?_
  refine AO.nil ?_
  refine AW.ret ?_
  exact ⟨_, rfl, rfl⟩

set_option maxRecDepth 100000 in
theorem fnAddPair_c {x y : Pr} {p : ByteArray} (hx : x.ok) (hy : y.ok) (hp : p.size ≤ maxLen) : AC Try.prog 3 [.ag x.cs, .ag y.cs, strD p] (fun d => d = .im (.bool true)) := by
  refine AC.intro Try.func3 Try.ntmps3 Try.results3 rfl (by simp) (fun w0 T => ?_)
  simp only [maxLen] at hp
  refine AW.seq ?_
  refine AW.region ?_
  refine AO.box rfl rfl rfl rfl ?_
  refine AO.box rfl rfl rfl rfl ?_
  refine AO.xs rfl rfl rfl (XS.assign rfl) ?_
  refine AO.nil ?_
  refine AW.seq ?_
  refine AW.seq ?_
  refine AW.region ?_
  refine AO.xs rfl rfl rfl (XS.move rfl) ?_
  refine AO.xs rfl rfl rfl (XS.lenStr rfl (st rfl)) ?_
  refine AO.xs rfl rfl rfl (XS.int rfl rfl rfl) ?_
  refine AO.nil ?_
  refine AW.cond rfl (fun hb1 => ?_) (fun hb1 => ?_)
  · skip
    replace hb1 := of_decide_eq_true hb1
    refine AW.seq ?_
    refine AW.region ?_
    refine AO.xs rfl rfl rfl (XS.assign rfl) ?_
    refine AO.nil ?_
    refine AW.ret ?_
    exact ⟨_, rfl, rfl⟩
  · skip
    replace hb1 := of_decide_eq_false hb1
    refine AW.skip ?_
    refine AW.seq ?_
    refine AW.region ?_
    refine AO.xs rfl rfl rfl (XS.assign rfl) ?_
    refine AO.nil ?_
    refine AW.seq ?_
    refine AW.region ?_
    refine AO.xs rfl rfl rfl (XS.loadA rfl (ro rfl) (sz rfl) rfl (Nat.le_of_ble_eq_true rfl)) ?_
    refine AO.xs rfl rfl rfl (XS.move rfl) ?_
    refine AO.xs rfl rfl rfl (XS.call rfl (by kernel_rfl) rfl (szPair_c (by omega) hx)) ?_
    refine AO.xs rfl rfl rfl (XS.assign rfl) ?_
    refine AO.nil ?_
    refine AW.seq ?_
    refine AW.seq ?_
    refine AW.region ?_
    refine AO.xs rfl rfl rfl (XS.move rfl) ?_
    refine AO.xs rfl rfl rfl (XS.int rfl rfl rfl) ?_
    refine AO.nil ?_
    refine AW.cond rfl (fun hb2 => ?_) (fun hb2 => ?_)
    · skip
      replace hb2 := of_decide_eq_true hb2
      refine AW.seq ?_
      refine AW.region ?_
      refine AO.xs rfl rfl rfl (XS.assign rfl) ?_
      refine AO.nil ?_
      refine AW.ret ?_
      exact ⟨_, rfl, rfl⟩
    · skip
      replace hb2 := of_decide_eq_false hb2
      have k1 := left_ge hb2
      refine AW.skip ?_
      refine AW.seq ?_
      refine AW.region ?_
      refine AO.xs rfl rfl rfl (XS.loadA rfl (ro rfl) (sz rfl) rfl (Nat.le_of_ble_eq_true rfl)) ?_
      refine AO.xs rfl rfl rfl (XS.move rfl) ?_
      refine AO.xs rfl rfl rfl (XS.call rfl (by kernel_rfl) rfl (szPair_c (by omega) hy)) ?_
      refine AO.xs rfl rfl rfl (XS.assign rfl) ?_
      refine AO.nil ?_
      refine AW.seq ?_
      refine AW.seq ?_
      refine AW.region ?_
      refine AO.xs rfl rfl rfl (XS.move rfl) ?_
      refine AO.xs rfl rfl rfl (XS.int rfl rfl rfl) ?_
      refine AO.nil ?_
      refine AW.cond rfl (fun hb3 => ?_) (fun hb3 => ?_)
      · skip
        replace hb3 := of_decide_eq_true hb3
        refine AW.seq ?_
        refine AW.region ?_
        refine AO.xs rfl rfl rfl (XS.assign rfl) ?_
        refine AO.nil ?_
        refine AW.ret ?_
        exact ⟨_, rfl, rfl⟩
      · skip
        replace hb3 := of_decide_eq_false hb3
        refine AW.skip ?_
        refine AW.seq ?_
        refine AW.drawn2 [[.im (.string ⟨#[]⟩), .im (.string ⟨#[]⟩)]] [(6, 2)] mix (Nat.zero_le _) rfl rfl ?_
        refine DC2.cons rfl rfl rfl (XS.loadA rfl (ro rfl) (sz rfl) rfl (Nat.le_of_ble_eq_true rfl)) ?_
        refine DC2.cons rfl rfl rfl (XS.call rfl (by kernel_rfl) rfl toPair_c) ?_
        refine DC2.cons rfl rfl rfl (XS.loadA rfl (ro rfl) (sz rfl) rfl (Nat.le_of_ble_eq_true rfl)) ?_
        refine DC2.cons rfl rfl rfl (XS.call rfl (by kernel_rfl) rfl toPair_c) ?_
        refine DC2.cons rfl rfl rfl (XS.move rfl) ?_
        refine DC2.cons rfl rfl rfl (XS.call rfl (by kernel_rfl) rfl addPairS_c) ?_
        refine DC2.al 2 rfl rfl (ze rfl) rfl rfl ?_
        refine DC2.done rfl (by kernel_rfl) ?_
        refine AO.store rfl rfl rfl rfl (sz rfl) rfl rfl rfl rfl ?_
        refine AO.nil ?_
        refine AW.seq ?_
        refine AW.drawn2 [[.im (.string ⟨#[]⟩), .im (.string ⟨#[]⟩)]] [(6, 3)] mix (Nat.zero_le _) rfl rfl ?_
        refine DC2.cons rfl rfl rfl (XS.loadA rfl (ro rfl) (sz rfl) rfl (Nat.le_of_ble_eq_true rfl)) ?_
        refine DC2.cons rfl rfl rfl (XS.call rfl (by kernel_rfl) rfl toPair_c) ?_
        refine DC2.cons rfl rfl rfl (XS.loadA rfl (ro rfl) (sz rfl) rfl (Nat.le_of_ble_eq_true rfl)) ?_
        refine DC2.cons rfl rfl rfl (XS.call rfl (by kernel_rfl) rfl toPair_c) ?_
        refine DC2.cons rfl rfl rfl (XS.move rfl) ?_
        refine DC2.cons rfl rfl rfl (XS.call rfl (by kernel_rfl) rfl (addPairI_c (by omega))) ?_
        refine DC2.al 3 rfl rfl (ze rfl) rfl rfl ?_
        refine DC2.done rfl (by kernel_rfl) ?_
        refine AO.store rfl rfl rfl rfl (sz rfl) rfl rfl rfl rfl ?_
        refine AO.nil ?_
        refine AW.seq ?_
        refine AW.seq ?_
        refine AW.region ?_
        refine AO.xs rfl rfl rfl (XS.loadA rfl (ro rfl) (sz rfl) rfl (Nat.le_of_ble_eq_true rfl)) ?_
        refine AO.xs rfl rfl rfl (XS.loadA rfl (ro rfl) (sz rfl) rfl (Nat.le_of_ble_eq_true rfl)) ?_
        refine AO.xs rfl rfl rfl (XS.call rfl (by kernel_rfl) rfl eqPair_c) ?_
        refine AO.xs rfl rfl rfl (XS.not rfl) ?_
        refine AO.nil ?_
        refine AW.cond rfl (fun hb4 => ?_) (fun hb4 => ?_)
        · skip
          replace hb4 := eqP_false.1 (notT hb4)
          exact absurd rfl hb4
        · skip
          replace hb4 := eqP_iff.1 (notF hb4)
          refine AW.skip ?_
          refine AW.seq ?_
          refine AW.region ?_
          refine AO.xs rfl rfl rfl (XS.assign rfl) ?_
          refine AO.nil ?_
          refine AW.ret ?_
          exact ⟨_, rfl, rfl⟩

set_option maxRecDepth 100000 in
theorem fnNegPair_c {x : Pr} {p : ByteArray} (hx : x.ok) (hp : p.size ≤ maxLen) : AC Try.prog 4 [.ag x.cs, strD p] (fun d => d = .im (.bool true)) := by
  refine AC.intro Try.func4 Try.ntmps4 Try.results4 rfl (by simp) (fun w0 T => ?_)
  simp only [maxLen] at hp
  refine AW.seq ?_
  refine AW.region ?_
  refine AO.box rfl rfl rfl rfl ?_
  refine AO.xs rfl rfl rfl (XS.assign rfl) ?_
  refine AO.nil ?_
  refine AW.seq ?_
  refine AW.seq ?_
  refine AW.region ?_
  refine AO.xs rfl rfl rfl (XS.move rfl) ?_
  refine AO.xs rfl rfl rfl (XS.lenStr rfl (st rfl)) ?_
  refine AO.xs rfl rfl rfl (XS.int rfl rfl rfl) ?_
  refine AO.nil ?_
  refine AW.cond rfl (fun hb1 => ?_) (fun hb1 => ?_)
  · skip
    replace hb1 := of_decide_eq_true hb1
    refine AW.seq ?_
    refine AW.region ?_
    refine AO.xs rfl rfl rfl (XS.assign rfl) ?_
    refine AO.nil ?_
    refine AW.ret ?_
    exact ⟨_, rfl, rfl⟩
  · skip
    replace hb1 := of_decide_eq_false hb1
    refine AW.skip ?_
    refine AW.seq ?_
    refine AW.region ?_
    refine AO.xs rfl rfl rfl (XS.assign rfl) ?_
    refine AO.nil ?_
    refine AW.seq ?_
    refine AW.region ?_
    refine AO.xs rfl rfl rfl (XS.loadA rfl (ro rfl) (sz rfl) rfl (Nat.le_of_ble_eq_true rfl)) ?_
    refine AO.xs rfl rfl rfl (XS.move rfl) ?_
    refine AO.xs rfl rfl rfl (XS.call rfl (by kernel_rfl) rfl (szPair_c (by omega) hx)) ?_
    refine AO.xs rfl rfl rfl (XS.assign rfl) ?_
    refine AO.nil ?_
    refine AW.seq ?_
    refine AW.seq ?_
    refine AW.region ?_
    refine AO.xs rfl rfl rfl (XS.move rfl) ?_
    refine AO.xs rfl rfl rfl (XS.int rfl rfl rfl) ?_
    refine AO.nil ?_
    refine AW.cond rfl (fun hb2 => ?_) (fun hb2 => ?_)
    · skip
      replace hb2 := of_decide_eq_true hb2
      refine AW.seq ?_
      refine AW.region ?_
      refine AO.xs rfl rfl rfl (XS.assign rfl) ?_
      refine AO.nil ?_
      refine AW.ret ?_
      exact ⟨_, rfl, rfl⟩
    · skip
      replace hb2 := of_decide_eq_false hb2
      refine AW.skip ?_
      refine AW.seq ?_
      refine AW.region ?_
      refine AO.xs rfl rfl rfl (XS.loadA rfl (ro rfl) (sz rfl) rfl (Nat.le_of_ble_eq_true rfl)) ?_
      refine AO.xs rfl rfl rfl (XS.call rfl (by kernel_rfl) rfl toPair_c) ?_
      refine AO.xs rfl rfl rfl (XS.move rfl) ?_
      refine AO.xs rfl rfl rfl (XS.call rfl (by kernel_rfl) rfl negPairS_c) ?_
      refine AO.alloc rfl rfl (ze rfl) ?_
      refine AO.store rfl rfl rfl rfl (sz rfl) rfl rfl rfl rfl ?_
      refine AO.nil ?_
      refine AW.seq ?_
      refine AW.region ?_
      refine AO.xs rfl rfl rfl (XS.loadA rfl (ro rfl) (sz rfl) rfl (Nat.le_of_ble_eq_true rfl)) ?_
      refine AO.xs rfl rfl rfl (XS.call rfl (by kernel_rfl) rfl toPair_c) ?_
      refine AO.xs rfl rfl rfl (XS.move rfl) ?_
      refine AO.xs rfl rfl rfl (XS.call rfl (by kernel_rfl) rfl (negPairI_c (by omega))) ?_
      refine AO.alloc rfl rfl (ze rfl) ?_
      refine AO.store rfl rfl rfl rfl (sz rfl) rfl rfl rfl rfl ?_
      refine AO.nil ?_
      refine AW.seq ?_
      refine AW.seq ?_
      refine AW.region ?_
      refine AO.xs rfl rfl rfl (XS.loadA rfl (ro rfl) (sz rfl) rfl (Nat.le_of_ble_eq_true rfl)) ?_
      refine AO.xs rfl rfl rfl (XS.loadA rfl (ro rfl) (sz rfl) rfl (Nat.le_of_ble_eq_true rfl)) ?_
      refine AO.xs rfl rfl rfl (XS.call rfl (by kernel_rfl) rfl eqPair_c) ?_
      refine AO.xs rfl rfl rfl (XS.not rfl) ?_
      refine AO.nil ?_
      refine AW.cond rfl (fun hb3 => ?_) (fun hb3 => ?_)
      · skip
        replace hb3 := eqP_false.1 (notT hb3)
        exact absurd rfl hb3
      · skip
        replace hb3 := eqP_iff.1 (notF hb3)
        refine AW.skip ?_
        refine AW.seq ?_
        refine AW.region ?_
        refine AO.xs rfl rfl rfl (XS.assign rfl) ?_
        refine AO.nil ?_
        refine AW.ret ?_
        exact ⟨_, rfl, rfl⟩

end Go.Proofs.Ytgafdhpagifpcaa.C
