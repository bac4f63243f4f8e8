/-
  OWN WORK, printed by wip/tools/gen.py out of the translation and of the contracts in wip/specs.
-/
import Derived.Test.YtgafdhpagifpcaaC24
namespace Go.Proofs.Ytgafdhpagifpcaa.C
open Go Go.RowKit Go.Proofs.Ytgafdhpagifpcaa.Av Go.Proofs.Ytgafdhpagifpcaa.Ty Go.Proofs.Ytgafdhpagifpcaa.Num
set_option linter.unusedVariables false


def mulPP (p : Nat) (x y : Nat × Nat) : Nat × Nat := (subM p (mulM p x.1 y.1) (mulM p x.2 y.2), addM p (mulM p x.1 y.2) (mulM p x.2 y.1))
theorem mulPP_lt {p : Nat} {x y : Nat × Nat} (hx : x.1 < p ∧ x.2 < p) (hy : y.1 < p ∧ y.2 < p) : (mulPP p x y).1 < p ∧ (mulPP p x y).2 < p := ⟨subM_lt (mulM_lt hx.1) (mulM_lt hx.2), addM_lt (mulM_lt hx.1) (mulM_lt hx.2)⟩
noncomputable def powPr (x : Pr) (e p : ByteArray) : Pr := selPr (prOk x p ∧ greatOk e) ⟨strN (pw (mulPP (beN p)) (1, 0) (beN x.a, beN x.b) (beN e) (nl 2 (beN e)) (nl 2 (beN e))).1, strN (pw (mulPP (beN p)) (1, 0) (beN x.a, beN x.b) (beN e) (nl 2 (beN e)) (nl 2 (beN e))).2⟩
theorem bit_yes {n : Nat} (h : ((n : Nat) : Int) = 1) : n = 1 := by omega
theorem bit_no {n : Nat} (h : ¬ ((n : Nat) : Int) = 1) : ¬ n = 1 := by omega
theorem lim_one : Dv.sl [[.im (.int .i64 1)]] = limD 1 := by
  unfold limD dg
  rw [nl_eq (b := 16777216) (k := 0) (by decide) (by decide) (by decide)]
  rfl
theorem pw_in {x : Pr} {e p : ByteArray} (hx : prOk x p) (t : Nat) : (pw (mulPP (beN p)) (1, 0) (beN x.a, beN x.b) (beN e) (nl 2 (beN e)) t).1 < beN p ∧ (pw (mulPP (beN p)) (1, 0) (beN x.a, beN x.b) (beN e) (nl 2 (beN e)) t).2 < beN p :=
  pw_ok (P := fun (z : Nat × Nat) => z.1 < beN p ∧ z.2 < beN p) ⟨hx.1.2, Nat.lt_trans (by decide) hx.1.2⟩ ⟨hx.a, hx.b⟩ (fun _ _ => mulPP_lt) t


theorem nl2_size (e : ByteArray) : nl 2 (beN e) ≤ 8 * e.size := (nl_le (by decide)).2 (by rw [← pow256]; exact beN_lt e)

set_option maxRecDepth 100000 in
set_option maxHeartbeats 1000000 in
theorem powPairI_c {x : Pr} {e p : ByteArray} (hp : p.size ≤ 1048576) : AC Try.prog 26 [.ag x.cs, strD e, strD p] (fun d => d = .ag (powPr x e p).cs) := by
  refine AC.intro Try.func26 Try.ntmps26 Try.results26 rfl (by simp) (fun w0 T => ?_)
  refine AW.seq ?_
  refine AW.region ?_
  refine AO.box rfl rfl rfl rfl ?_
  refine AO.alloc rfl rfl (ze rfl) ?_
  refine AO.nil ?_
  refine AW.seq ?_
  refine AW.region ?_
  refine AO.xs rfl rfl rfl (XS.move rfl) ?_
  refine AO.xs rfl rfl rfl (XS.loadA rfl (ro rfl) (sz rfl) rfl (Nat.le_of_ble_eq_true rfl)) ?_
  refine AO.xs rfl rfl rfl (XS.buildSlice (ap rfl) rfl rfl rfl (by decide)) ?_
  refine AO.xs rfl rfl rfl (XS.call rfl (by kernel_rfl) rfl (pairs_c (xs := [x]) hp (by simp))) ?_
  refine AO.xs rfl rfl rfl (XS.move rfl) ?_
  refine AO.xs rfl rfl rfl (XS.extract rfl rfl) ?_
  refine AO.xs rfl rfl rfl (XS.extract rfl rfl) ?_
  refine AO.xs rfl rfl rfl (XS.assign rfl) ?_
  refine AO.xs rfl rfl rfl (XS.assign rfl) ?_
  refine AO.nil ?_
  refine AW.seq ?_
  refine AW.seq ?_
  refine AW.region ?_
  refine AO.xs rfl rfl rfl (XS.move rfl) ?_
  refine AO.xs rfl rfl rfl (XS.not rfl) ?_
  refine AO.xs rfl rfl rfl (XS.move rfl) ?_
  refine AO.split 22 rfl (fun hg1 => ?_) (fun hg1 => ?_)
  · skip
    have hg1n := eqP_false.1 (notT hg1)
    refine AO.gno rfl rfl rfl rfl rfl rfl hg1 (by decide) rfl ?_
    refine AO.gno rfl rfl rfl rfl rfl rfl hg1 (by decide) rfl ?_
    refine AO.gno rfl rfl rfl rfl rfl rfl hg1 (by decide) rfl ?_
    refine AO.xs rfl rfl rfl (XS.pickT rfl rfl hg1) ?_
    refine AO.nil ?_
    refine AW.condT rfl rfl ?_
    refine AW.seq ?_
    refine AW.region ?_
    refine AO.xs rfl rfl rfl (XS.build (ze rfl) (pl rfl) rfl rfl) ?_
    refine AO.store rfl rfl rfl rfl (sz rfl) rfl rfl rfl rfl ?_
    refine AO.nil ?_
    refine AW.ret ?_
    exact ⟨_, rfl, pr_no (fun h => hg1n (prs_one.2 h.1)) _⟩
  · skip
    have hg1n := eqP_iff.1 (notF hg1)
    refine AO.gyes rfl rfl rfl rfl rfl rfl hg1 rfl (XS.move rfl) ?_
    refine AO.gyes rfl rfl rfl rfl rfl rfl hg1 rfl (XS.call rfl (by kernel_rfl) rfl greatOkI_c) ?_
    refine AO.gyes rfl rfl rfl rfl rfl rfl hg1 rfl (XS.not rfl) ?_
    refine AO.xs rfl rfl rfl (XS.pickF rfl rfl hg1) ?_
    refine AO.nil ?_
    refine AW.cond rfl (fun hb2 => ?_) (fun hb2 => ?_)
    · skip
      replace hb2 := eqP_false.1 (notT hb2)
      refine AW.seq ?_
      refine AW.region ?_
      refine AO.xs rfl rfl rfl (XS.build (ze rfl) (pl rfl) rfl rfl) ?_
      refine AO.store rfl rfl rfl rfl (sz rfl) rfl rfl rfl rfl ?_
      refine AO.nil ?_
      refine AW.ret ?_
      exact ⟨_, rfl, pr_no (fun h => hb2 h.2) _⟩
    · skip
      replace hb2 := eqP_iff.1 (notF hb2)
      have hx := prs_one.1 hg1n
      have hg := hb2
      have hq := hx.p
      have z1 := hx.sa
      have z2 := hx.sb
      have z5 := hx.sp
      have z6 := hg.1
      have z7 := nl64_size e
      have hse : nl 18446744073709551616 (beN e) ≤ 1048576 := by omega
      have z8 := nl2_size e
      refine AW.tell 7 rfl (congrArg natD (sel_yes hx.1 _)) ?_
      refine AW.skip ?_
      refine AW.seq ?_
      refine AW.drawn2 [[.sl [], .sl []], [.sl [], .sl []]] [(6, 2), (7, 3)] mix (Nat.zero_le _) rfl rfl ?_
      refine DC2.cons rfl rfl rfl (XS.call rfl (by kernel_rfl) rfl (small_c (n := 1) (by decide))) ?_
      refine DC2.cons rfl rfl rfl (XS.build (ze rfl) (pl rfl) rfl rfl) ?_
      refine DC2.cons rfl rfl rfl (XS.loadA rfl (ro rfl) (sz rfl) rfl (Nat.le_of_ble_eq_true rfl)) ?_
      refine DC2.cons rfl rfl rfl (XS.call rfl (by kernel_rfl) rfl (pairOf_c (by omega) (by omega))) ?_
      refine DC2.cons rfl rfl rfl (XS.move rfl) ?_
      refine DC2.cons rfl rfl rfl (XS.call rfl (by kernel_rfl) rfl (natOf_c (by omega))) ?_
      refine DC2.al 2 rfl rfl (ze rfl) rfl rfl ?_
      refine DC2.al 3 rfl rfl (ze rfl) rfl rfl ?_
      refine DC2.any rfl (by kernel_rfl) ?_
      refine AY.one 8 (by kernel_rfl) ?_
      refine AO.store rfl rfl rfl rfl (sz rfl) rfl rfl rfl rfl ?_
      refine AO.nil ?_
      refine AY.one 9 (by kernel_rfl) ?_
      refine AO.store rfl rfl rfl rfl (sz rfl) rfl rfl rfl rfl ?_
      refine AO.nil ?_
      refine AY.one 10 (by kernel_rfl) ?_
      refine AO.xs rfl rfl rfl (XS.assign rfl) ?_
      refine AO.nil ?_
      refine AY.nil (by kernel_rfl) ?_
      refine AW.seq ?_
      refine AW.seq ?_
      refine AW.wkH (H' := [x.cs, pr0.cs, [natD 1, .sl []], [natD (beN x.a), natD (beN x.b)]]) rfl ?_
      refine AW.setH (congrArg (fun z => [x.cs, pr0.cs, [natD 1, z], [natD (beN x.a), natD (beN x.b)]]) natD_zero.symm) ?_
      refine AW.region ?_
      refine AO.xs rfl rfl rfl (XS.move rfl) ?_
      refine AO.xs rfl rfl rfl (XS.call rfl (by kernel_rfl) rfl (size_c (by assumption))) ?_
      refine AO.xs rfl rfl rfl (XS.subI rfl rfl (by omega)) ?_
      refine AO.xs rfl rfl rfl (XS.assign rfl) ?_
      refine AO.nil ?_
      refine AW.block ?_
      refine AW.loop [6, 7, 9, 10, 11] (fun j => [(12, .d (intD (((j : Nat) : Int) - 1)))]) (fun j => [x.cs, pr0.cs, [natD (pw (mulPP (beN p)) (1, 0) (beN x.a, beN x.b) (beN e) (nl 2 (beN e)) ((nl 2 (beN e)) - j)).1, natD (pw (mulPP (beN p)) (1, 0) (beN x.a, beN x.b) (beN e) (nl 2 (beN e)) ((nl 2 (beN e)) - j)).2], [natD (beN x.a), natD (beN x.b)]]) (fun j => j ≤ (nl 2 (beN e))) (fun j => j) ((nl 2 (beN e))) (Nat.le_refl _) ⟨rfl, trivial⟩ ⟨⟨_, rfl, rfl⟩, ⟨_, rfl, rfl⟩, ⟨_, rfl, rfl⟩, ⟨_, rfl, rfl⟩, ⟨_, rfl, rfl⟩, trivial⟩ (congrArg (fun z : Nat × Nat => [x.cs, pr0.cs, [natD z.1, natD z.2], [natD (beN x.a), natD (beN x.b)]]) (show (1, 0) = pw (mulPP (beN p)) (1, 0) (beN x.a, beN x.b) (beN e) (nl 2 (beN e)) ((nl 2 (beN e)) - (nl 2 (beN e))) by rw [Nat.sub_self]; rfl)) ?_
      intro j hj
      refine AW.seq ?_
      refine AW.seq ?_
      refine AW.region ?_
      refine AO.xs rfl rfl rfl (XS.move rfl) ?_
      refine AO.xs rfl rfl rfl (XS.int rfl rfl rfl) ?_
      refine AO.nil ?_
      refine AW.cond rfl (fun hb3 => ?_) (fun hb3 => ?_)
      · skip
        replace hb3 := of_decide_eq_true hb3
        obtain ⟨i, rfl⟩ : ∃ i, j = i + 1 := ⟨j - 1, by omega⟩
        refine AW.tell 12 rfl (intEq (show ((i + 1 : Nat) : Int) - 1 = ((i : Nat) : Int) by omega)) ?_
        obtain ⟨r, hr0⟩ : ∃ r, r = pw (mulPP (beN p)) (1, 0) (beN x.a, beN x.b) (beN e) (nl 2 (beN e)) ((nl 2 (beN e)) - (i + 1)) := ⟨_, rfl⟩
        have hr : r.1 < beN p ∧ r.2 < beN p := by rw [hr0]; exact pw_in hx _
        have hs := mulPP_lt hr hr
        refine AW.setH (congrArg (fun z : Nat × Nat => [x.cs, pr0.cs, [natD z.1, natD z.2], [natD (beN x.a), natD (beN x.b)]]) hr0.symm) ?_
        refine AW.skip ?_
        refine AW.seq ?_
        refine AW.block ?_
        refine AW.seq ?_
        refine AW.region ?_
        refine AO.xs rfl rfl rfl (XS.move rfl) ?_
        refine AO.xs rfl rfl rfl (XS.loadA rfl (ro rfl) (sz rfl) rfl (Nat.le_of_ble_eq_true rfl)) ?_
        refine AO.xs rfl rfl rfl (XS.loadA rfl (ro rfl) (sz rfl) rfl (Nat.le_of_ble_eq_true rfl)) ?_
        refine AO.xs rfl rfl rfl (XS.call rfl (by kernel_rfl) rfl (mul2_c hq hr.1 hr.2 hr.1 hr.2)) ?_
        refine AO.store rfl rfl rfl rfl (sz rfl) rfl rfl rfl rfl ?_
        refine AO.nil ?_
        refine AW.seq ?_
        refine AW.region ?_
        refine AO.xs rfl rfl rfl (XS.move rfl) ?_
        refine AO.xs rfl rfl rfl (XS.move rfl) ?_
        refine AO.xs rfl rfl rfl (XS.call rfl (by kernel_rfl) rfl (bit_c (by omega) (by omega))) ?_
        refine AO.xs rfl rfl rfl (XS.int rfl rfl rfl) ?_
        refine AO.nil ?_
        refine AW.cond rfl (fun hb4 => ?_) (fun hb4 => ?_)
        · skip
          replace hb4 := eq_of_beq hb4
          refine AW.region ?_
          refine AO.xs rfl rfl rfl (XS.move rfl) ?_
          refine AO.xs rfl rfl rfl (XS.loadA rfl (ro rfl) (sz rfl) rfl (Nat.le_of_ble_eq_true rfl)) ?_
          refine AO.xs rfl rfl rfl (XS.loadA rfl (ro rfl) (sz rfl) rfl (Nat.le_of_ble_eq_true rfl)) ?_
          refine AO.xs rfl rfl rfl (XS.call rfl (by kernel_rfl) rfl (mul2_c hq hs.1 hs.2 hx.a hx.b)) ?_
          refine AO.store rfl rfl rfl rfl (sz rfl) rfl rfl rfl rfl ?_
          refine AO.nil ?_
          refine AW.region ?_
          refine AO.xs rfl rfl rfl (XS.move rfl) ?_
          refine AO.xs rfl rfl rfl (XS.subI rfl rfl (by omega)) ?_
          refine AO.xs rfl rfl rfl (XS.assign rfl) ?_
          refine AO.nil ?_
          exact ⟨i, (by omega), (by dsimp only; omega), ⟨rfl, trivial⟩, ⟨⟨_, rfl, rfl⟩, ⟨_, rfl, rfl⟩, ⟨_, rfl, rfl⟩, ⟨_, rfl, rfl⟩, ⟨_, rfl, rfl⟩, trivial⟩, (congrArg (fun z : Nat × Nat => [x.cs, pr0.cs, [natD z.1, natD z.2], [natD (beN x.a), natD (beN x.b)]]) (show (mulPP (beN p) (mulPP (beN p) r r) (beN x.a, beN x.b)) = pw (mulPP (beN p)) (1, 0) (beN x.a, beN x.b) (beN e) (nl 2 (beN e)) ((nl 2 (beN e)) - i) by rw [pw_step (by omega), if_pos (bit_yes hb4), ← hr0]))⟩
        · skip
          replace hb4 := ne_of_beq_false hb4
          refine AW.skip ?_
          refine AW.region ?_
          refine AO.xs rfl rfl rfl (XS.move rfl) ?_
          refine AO.xs rfl rfl rfl (XS.subI rfl rfl (by omega)) ?_
          refine AO.xs rfl rfl rfl (XS.assign rfl) ?_
          refine AO.nil ?_
          exact ⟨i, (by omega), (by dsimp only; omega), ⟨rfl, trivial⟩, ⟨⟨_, rfl, rfl⟩, ⟨_, rfl, rfl⟩, ⟨_, rfl, rfl⟩, ⟨_, rfl, rfl⟩, ⟨_, rfl, rfl⟩, trivial⟩, (congrArg (fun z : Nat × Nat => [x.cs, pr0.cs, [natD z.1, natD z.2], [natD (beN x.a), natD (beN x.b)]]) (show (mulPP (beN p) r r) = pw (mulPP (beN p)) (1, 0) (beN x.a, beN x.b) (beN e) (nl 2 (beN e)) ((nl 2 (beN e)) - i) by rw [pw_step (by omega), if_neg (bit_no hb4), ← hr0]))⟩
      · skip
        replace hb3 := of_decide_eq_false hb3
        obtain rfl : j = 0 := by omega
        refine AW.exit ?_
        refine AW.seq ?_
        refine AW.region ?_
        refine AO.xs rfl rfl rfl (XS.loadA rfl (ro rfl) (sz rfl) rfl (Nat.le_of_ble_eq_true rfl)) ?_
        refine AO.xs rfl rfl rfl (XS.call rfl (by kernel_rfl) rfl (told_c (lt160 (pw_in hx _).1 hq) (lt160 (pw_in hx _).2 hq))) ?_
        refine AO.store rfl rfl rfl rfl (sz rfl) rfl rfl rfl rfl ?_
        refine AO.nil ?_
        refine AW.ret ?_
        exact ⟨_, rfl, pr_yes ⟨hx, hg⟩ _⟩

set_option maxRecDepth 100000 in
set_option maxHeartbeats 1000000 in
theorem powPairS_c {x : Pr} {e p : ByteArray} : AC Try.prog 25 [.ag x.cs, strD e, strD p] (fun d => d = .ag (powPr x e p).cs) := by
  refine AC.intro Try.func25 Try.ntmps25 Try.results25 rfl (by simp) (fun w0 T => ?_)
  refine AW.seq ?_
  refine AW.region ?_
  refine AO.box rfl rfl rfl rfl ?_
  refine AO.alloc rfl rfl (ze rfl) ?_
  refine AO.nil ?_
  refine AW.seq ?_
  refine AW.seq ?_
  refine AW.region ?_
  refine AO.xs rfl rfl rfl (XS.loadA rfl (ro rfl) (sz rfl) rfl (Nat.le_of_ble_eq_true rfl)) ?_
  refine AO.xs rfl rfl rfl (XS.move rfl) ?_
  refine AO.xs rfl rfl rfl (XS.call rfl (by kernel_rfl) rfl (pairOkS_c (x := x))) ?_
  refine AO.xs rfl rfl rfl (XS.not rfl) ?_
  refine AO.xs rfl rfl rfl (XS.move rfl) ?_
  refine AO.split 15 rfl (fun hg1 => ?_) (fun hg1 => ?_)
  · skip
    have hg1n := eqP_false.1 (notT hg1)
    refine AO.gno rfl rfl rfl rfl rfl rfl hg1 (by decide) rfl ?_
    refine AO.gno rfl rfl rfl rfl rfl rfl hg1 (by decide) rfl ?_
    refine AO.gno rfl rfl rfl rfl rfl rfl hg1 (by decide) rfl ?_
    refine AO.xs rfl rfl rfl (XS.pickT rfl rfl hg1) ?_
    refine AO.nil ?_
    refine AW.condT rfl rfl ?_
    refine AW.seq ?_
    refine AW.region ?_
    refine AO.xs rfl rfl rfl (XS.build (ze rfl) (pl rfl) rfl rfl) ?_
    refine AO.store rfl rfl rfl rfl (sz rfl) rfl rfl rfl rfl ?_
    refine AO.nil ?_
    refine AW.ret ?_
    exact ⟨_, rfl, pr_no (fun h => hg1n h.1) _⟩
  · skip
    have hg1n := eqP_iff.1 (notF hg1)
    refine AO.gyes rfl rfl rfl rfl rfl rfl hg1 rfl (XS.move rfl) ?_
    refine AO.gyes rfl rfl rfl rfl rfl rfl hg1 rfl (XS.call rfl (by kernel_rfl) rfl greatOkS_c) ?_
    refine AO.gyes rfl rfl rfl rfl rfl rfl hg1 rfl (XS.not rfl) ?_
    refine AO.xs rfl rfl rfl (XS.pickF rfl rfl hg1) ?_
    refine AO.nil ?_
    refine AW.cond rfl (fun hb2 => ?_) (fun hb2 => ?_)
    · skip
      replace hb2 := eqP_false.1 (notT hb2)
      refine AW.seq ?_
      refine AW.region ?_
      refine AO.xs rfl rfl rfl (XS.build (ze rfl) (pl rfl) rfl rfl) ?_
      refine AO.store rfl rfl rfl rfl (sz rfl) rfl rfl rfl rfl ?_
      refine AO.nil ?_
      refine AW.ret ?_
      exact ⟨_, rfl, pr_no (fun h => hb2 h.2) _⟩
    · skip
      replace hb2 := eqP_iff.1 (notF hb2)
      have hx := hg1n
      have hg := hb2
      have hq := hx.p
      have z1 := hx.sa
      have z2 := hx.sb
      have z5 := hx.sp
      have z6 := hg.1
      have z7 := nl64_size e
      have hse : nl 18446744073709551616 (beN e) ≤ 1048576 := by omega
      have z8 := nl2_size e
      refine AW.skip ?_
      refine AW.seq ?_
      refine AW.region ?_
      refine AO.xs rfl rfl rfl (XS.move rfl) ?_
      refine AO.xs rfl rfl rfl (XS.call rfl (by kernel_rfl) rfl (l02In_c (by omega))) ?_
      refine AO.xs rfl rfl rfl (XS.assign rfl) ?_
      refine AO.nil ?_
      refine AW.seq ?_
      refine AW.region ?_
      refine AO.xs rfl rfl rfl (XS.loadA rfl (ro rfl) (sz rfl) rfl (Nat.le_of_ble_eq_true rfl)) ?_
      refine AO.xs rfl rfl rfl (XS.call rfl (by kernel_rfl) rfl (l07In_c (by omega) (by omega))) ?_
      refine AO.alloc rfl rfl (ze rfl) ?_
      refine AO.store rfl rfl rfl rfl (sz rfl) rfl rfl rfl rfl ?_
      refine AO.nil ?_
      refine AW.seq ?_
      refine AW.region ?_
      refine AO.xs rfl rfl rfl (XS.buildSlice (ap rfl) rfl rfl rfl (by decide)) ?_
      refine AO.xs rfl rfl rfl (XS.build (ze rfl) (pl rfl) rfl rfl) ?_
      refine AO.alloc rfl rfl (ze rfl) ?_
      refine AO.store rfl rfl rfl rfl (sz rfl) rfl rfl rfl rfl ?_
      refine AO.nil ?_
      refine AW.seq ?_
      refine AW.seq ?_
      refine AW.wkH (H' := [x.cs, pr0.cs, [limD (beN x.a), limD (beN x.b)], [.sl [[.im (.int .i64 1)]], .sl []]]) rfl ?_
      refine AW.setH (congrArg (fun z => [x.cs, pr0.cs, [limD (beN x.a), limD (beN x.b)], [z, .sl []]]) lim_one) ?_
      refine AW.setH (congrArg (fun z => [x.cs, pr0.cs, [limD (beN x.a), limD (beN x.b)], [limD 1, z]]) limD_zero.symm) ?_
      refine AW.region ?_
      refine AO.xs rfl rfl rfl (XS.move rfl) ?_
      refine AO.xs rfl rfl rfl (XS.call rfl (by kernel_rfl) rfl (bitsOf_c (by assumption))) ?_
      refine AO.xs rfl rfl rfl (XS.subI rfl rfl (by omega)) ?_
      refine AO.xs rfl rfl rfl (XS.assign rfl) ?_
      refine AO.nil ?_
      refine AW.block ?_
      refine AW.loop [1, 6, 7, 8, 9] (fun j => [(10, .d (intD (((j : Nat) : Int) - 1)))]) (fun j => [x.cs, pr0.cs, [limD (beN x.a), limD (beN x.b)], [limD (pw (mulPP (beN p)) (1, 0) (beN x.a, beN x.b) (beN e) (nl 2 (beN e)) ((nl 2 (beN e)) - j)).1, limD (pw (mulPP (beN p)) (1, 0) (beN x.a, beN x.b) (beN e) (nl 2 (beN e)) ((nl 2 (beN e)) - j)).2]]) (fun j => j ≤ (nl 2 (beN e))) (fun j => j) ((nl 2 (beN e))) (Nat.le_refl _) ⟨rfl, trivial⟩ ⟨⟨_, rfl, rfl⟩, ⟨_, rfl, rfl⟩, ⟨_, rfl, rfl⟩, ⟨_, rfl, rfl⟩, ⟨_, rfl, rfl⟩, trivial⟩ (congrArg (fun z : Nat × Nat => [x.cs, pr0.cs, [limD (beN x.a), limD (beN x.b)], [limD z.1, limD z.2]]) (show (1, 0) = pw (mulPP (beN p)) (1, 0) (beN x.a, beN x.b) (beN e) (nl 2 (beN e)) ((nl 2 (beN e)) - (nl 2 (beN e))) by rw [Nat.sub_self]; rfl)) ?_
      intro j hj
      refine AW.seq ?_
      refine AW.seq ?_
      refine AW.region ?_
      refine AO.xs rfl rfl rfl (XS.move rfl) ?_
      refine AO.xs rfl rfl rfl (XS.int rfl rfl rfl) ?_
      refine AO.nil ?_
      refine AW.cond rfl (fun hb3 => ?_) (fun hb3 => ?_)
      · skip
        replace hb3 := of_decide_eq_true hb3
        obtain ⟨i, rfl⟩ : ∃ i, j = i + 1 := ⟨j - 1, by omega⟩
        refine AW.tell 10 rfl (intEq (show ((i + 1 : Nat) : Int) - 1 = ((i : Nat) : Int) by omega)) ?_
        obtain ⟨r, hr0⟩ : ∃ r, r = pw (mulPP (beN p)) (1, 0) (beN x.a, beN x.b) (beN e) (nl 2 (beN e)) ((nl 2 (beN e)) - (i + 1)) := ⟨_, rfl⟩
        have hr : r.1 < beN p ∧ r.2 < beN p := by rw [hr0]; exact pw_in hx _
        have hs := mulPP_lt hr hr
        refine AW.setH (congrArg (fun z : Nat × Nat => [x.cs, pr0.cs, [limD (beN x.a), limD (beN x.b)], [limD z.1, limD z.2]]) hr0.symm) ?_
        refine AW.skip ?_
        refine AW.seq ?_
        refine AW.block ?_
        refine AW.seq ?_
        refine AW.region ?_
        refine AO.xs rfl rfl rfl (XS.loadA rfl (ro rfl) (sz rfl) rfl (Nat.le_of_ble_eq_true rfl)) ?_
        refine AO.xs rfl rfl rfl (XS.loadA rfl (ro rfl) (sz rfl) rfl (Nat.le_of_ble_eq_true rfl)) ?_
        refine AO.xs rfl rfl rfl (XS.move rfl) ?_
        refine AO.xs rfl rfl rfl (XS.call rfl (by kernel_rfl) rfl (l07Mul_c hq hr.1 hr.2 hr.1 hr.2)) ?_
        refine AO.store rfl rfl rfl rfl (sz rfl) rfl rfl rfl rfl ?_
        refine AO.nil ?_
        refine AW.seq ?_
        refine AW.region ?_
        refine AO.xs rfl rfl rfl (XS.move rfl) ?_
        refine AO.xs rfl rfl rfl (XS.move rfl) ?_
        refine AO.xs rfl rfl rfl (XS.call rfl (by kernel_rfl) rfl (bitOf_c (by assumption) (by omega))) ?_
        refine AO.xs rfl rfl rfl (XS.int rfl rfl rfl) ?_
        refine AO.nil ?_
        refine AW.cond rfl (fun hb4 => ?_) (fun hb4 => ?_)
        · skip
          replace hb4 := eq_of_beq hb4
          refine AW.region ?_
          refine AO.xs rfl rfl rfl (XS.loadA rfl (ro rfl) (sz rfl) rfl (Nat.le_of_ble_eq_true rfl)) ?_
          refine AO.xs rfl rfl rfl (XS.loadA rfl (ro rfl) (sz rfl) rfl (Nat.le_of_ble_eq_true rfl)) ?_
          refine AO.xs rfl rfl rfl (XS.move rfl) ?_
          refine AO.xs rfl rfl rfl (XS.call rfl (by kernel_rfl) rfl (l07Mul_c hq hs.1 hs.2 hx.a hx.b)) ?_
          refine AO.store rfl rfl rfl rfl (sz rfl) rfl rfl rfl rfl ?_
          refine AO.nil ?_
          refine AW.region ?_
          refine AO.xs rfl rfl rfl (XS.move rfl) ?_
          refine AO.xs rfl rfl rfl (XS.subI rfl rfl (by omega)) ?_
          refine AO.xs rfl rfl rfl (XS.assign rfl) ?_
          refine AO.nil ?_
          exact ⟨i, (by omega), (by dsimp only; omega), ⟨rfl, trivial⟩, ⟨⟨_, rfl, rfl⟩, ⟨_, rfl, rfl⟩, ⟨_, rfl, rfl⟩, ⟨_, rfl, rfl⟩, ⟨_, rfl, rfl⟩, trivial⟩, (congrArg (fun z : Nat × Nat => [x.cs, pr0.cs, [limD (beN x.a), limD (beN x.b)], [limD z.1, limD z.2]]) (show (mulPP (beN p) (mulPP (beN p) r r) (beN x.a, beN x.b)) = pw (mulPP (beN p)) (1, 0) (beN x.a, beN x.b) (beN e) (nl 2 (beN e)) ((nl 2 (beN e)) - i) by rw [pw_step (by omega), if_pos (bit_yes hb4), ← hr0]))⟩
        · skip
          replace hb4 := ne_of_beq_false hb4
          refine AW.skip ?_
          refine AW.region ?_
          refine AO.xs rfl rfl rfl (XS.move rfl) ?_
          refine AO.xs rfl rfl rfl (XS.subI rfl rfl (by omega)) ?_
          refine AO.xs rfl rfl rfl (XS.assign rfl) ?_
          refine AO.nil ?_
          exact ⟨i, (by omega), (by dsimp only; omega), ⟨rfl, trivial⟩, ⟨⟨_, rfl, rfl⟩, ⟨_, rfl, rfl⟩, ⟨_, rfl, rfl⟩, ⟨_, rfl, rfl⟩, ⟨_, rfl, rfl⟩, trivial⟩, (congrArg (fun z : Nat × Nat => [x.cs, pr0.cs, [limD (beN x.a), limD (beN x.b)], [limD z.1, limD z.2]]) (show (mulPP (beN p) r r) = pw (mulPP (beN p)) (1, 0) (beN x.a, beN x.b) (beN e) (nl 2 (beN e)) ((nl 2 (beN e)) - i) by rw [pw_step (by omega), if_neg (bit_no hb4), ← hr0]))⟩
      · skip
        replace hb3 := of_decide_eq_false hb3
        obtain rfl : j = 0 := by omega
        refine AW.exit ?_
        refine AW.seq ?_
        refine AW.region ?_
        refine AO.xs rfl rfl rfl (XS.loadA rfl (ro rfl) (sz rfl) rfl (Nat.le_of_ble_eq_true rfl)) ?_
        refine AO.xs rfl rfl rfl (XS.call rfl (by kernel_rfl) rfl (l07Out_c (lt160 (pw_in hx _).1 hq) (lt160 (pw_in hx _).2 hq))) ?_
        refine AO.store rfl rfl rfl rfl (sz rfl) rfl rfl rfl rfl ?_
        refine AO.nil ?_
        refine AW.ret ?_
        exact ⟨_, rfl, pr_yes ⟨hx, hg⟩ _⟩

set_option maxRecDepth 100000 in
theorem fnPowPair_c {x : Pr} {e p : ByteArray} (hx : x.ok) (he : e.size ≤ maxLen) (hp : p.size ≤ maxLen) : AC Try.prog 7 [.ag x.cs, strD e, strD p] (fun d => d = .im (.bool true)) := by
  refine AC.intro Try.func7 Try.ntmps7 Try.results7 rfl (by simp) (fun w0 T => ?_)
  simp only [maxLen] at he hp
  refine AW.seq ?_
  refine AW.region ?_
  refine AO.box rfl rfl rfl rfl ?_
  refine AO.xs rfl rfl rfl (XS.assign rfl) ?_
  refine AO.nil ?_
  refine AW.seq ?_
  refine AW.seq ?_
  refine AW.region ?_
  refine AO.xs rfl rfl rfl (XS.move rfl) ?_
  refine AO.xs rfl rfl rfl (XS.lenStr rfl (st rfl)) ?_
  refine AO.xs rfl rfl rfl (XS.int rfl rfl rfl) ?_
  refine AO.nil ?_
  refine AW.cond rfl (fun hb1 => ?_) (fun hb1 => ?_)
  · skip
    replace hb1 := of_decide_eq_true hb1
    refine AW.seq ?_
    refine AW.region ?_
    refine AO.xs rfl rfl rfl (XS.assign rfl) ?_
    refine AO.nil ?_
    refine AW.ret ?_
    exact ⟨_, rfl, rfl⟩
  · skip
    replace hb1 := of_decide_eq_false hb1
    refine AW.skip ?_
    refine AW.seq ?_
    refine AW.seq ?_
    refine AW.region ?_
    refine AO.xs rfl rfl rfl (XS.move rfl) ?_
    refine AO.xs rfl rfl rfl (XS.lenStr rfl (st rfl)) ?_
    refine AO.xs rfl rfl rfl (XS.int rfl rfl rfl) ?_
    refine AO.nil ?_
    refine AW.cond rfl (fun hb2 => ?_) (fun hb2 => ?_)
    · skip
      replace hb2 := of_decide_eq_true hb2
      refine AW.seq ?_
      refine AW.region ?_
      refine AO.xs rfl rfl rfl (XS.assign rfl) ?_
      refine AO.nil ?_
      refine AW.ret ?_
      exact ⟨_, rfl, rfl⟩
    · skip
      replace hb2 := of_decide_eq_false hb2
      refine AW.skip ?_
      refine AW.seq ?_
      refine AW.region ?_
      refine AO.xs rfl rfl rfl (XS.assign rfl) ?_
      refine AO.nil ?_
      refine AW.seq ?_
      refine AW.region ?_
      refine AO.xs rfl rfl rfl (XS.loadA rfl (ro rfl) (sz rfl) rfl (Nat.le_of_ble_eq_true rfl)) ?_
      refine AO.xs rfl rfl rfl (XS.move rfl) ?_
      refine AO.xs rfl rfl rfl (XS.call rfl (by kernel_rfl) rfl (szPair_c (by omega) hx)) ?_
      refine AO.xs rfl rfl rfl (XS.assign rfl) ?_
      refine AO.nil ?_
      refine AW.seq ?_
      refine AW.seq ?_
      refine AW.region ?_
      refine AO.xs rfl rfl rfl (XS.move rfl) ?_
      refine AO.xs rfl rfl rfl (XS.int rfl rfl rfl) ?_
      refine AO.nil ?_
      refine AW.cond rfl (fun hb3 => ?_) (fun hb3 => ?_)
      · skip
        replace hb3 := of_decide_eq_true hb3
        refine AW.seq ?_
        refine AW.region ?_
        refine AO.xs rfl rfl rfl (XS.assign rfl) ?_
        refine AO.nil ?_
        refine AW.ret ?_
        exact ⟨_, rfl, rfl⟩
      · skip
        replace hb3 := of_decide_eq_false hb3
        refine AW.skip ?_
        refine AW.seq ?_
        refine AW.region ?_
        refine AO.xs rfl rfl rfl (XS.loadA rfl (ro rfl) (sz rfl) rfl (Nat.le_of_ble_eq_true rfl)) ?_
        refine AO.xs rfl rfl rfl (XS.call rfl (by kernel_rfl) rfl toPair_c) ?_
        refine AO.xs rfl rfl rfl (XS.move rfl) ?_
        refine AO.xs rfl rfl rfl (XS.move rfl) ?_
        refine AO.xs rfl rfl rfl (XS.call rfl (by kernel_rfl) rfl powPairS_c) ?_
        refine AO.alloc rfl rfl (ze rfl) ?_
        refine AO.store rfl rfl rfl rfl (sz rfl) rfl rfl rfl rfl ?_
        refine AO.nil ?_
        refine AW.seq ?_
        refine AW.region ?_
        refine AO.xs rfl rfl rfl (XS.loadA rfl (ro rfl) (sz rfl) rfl (Nat.le_of_ble_eq_true rfl)) ?_
        refine AO.xs rfl rfl rfl (XS.call rfl (by kernel_rfl) rfl toPair_c) ?_
        refine AO.xs rfl rfl rfl (XS.move rfl) ?_
        refine AO.xs rfl rfl rfl (XS.move rfl) ?_
        refine AO.xs rfl rfl rfl (XS.call rfl (by kernel_rfl) rfl (powPairI_c (by omega))) ?_
        refine AO.alloc rfl rfl (ze rfl) ?_
        refine AO.store rfl rfl rfl rfl (sz rfl) rfl rfl rfl rfl ?_
        refine AO.nil ?_
        refine AW.seq ?_
        refine AW.seq ?_
        refine AW.region ?_
        refine AO.xs rfl rfl rfl (XS.loadA rfl (ro rfl) (sz rfl) rfl (Nat.le_of_ble_eq_true rfl)) ?_
        refine AO.xs rfl rfl rfl (XS.loadA rfl (ro rfl) (sz rfl) rfl (Nat.le_of_ble_eq_true rfl)) ?_
        refine AO.xs rfl rfl rfl (XS.call rfl (by kernel_rfl) rfl eqPair_c) ?_
        refine AO.xs rfl rfl rfl (XS.not rfl) ?_
        refine AO.nil ?_
        refine AW.cond rfl (fun hb4 => ?_) (fun hb4 => ?_)
        · skip
          replace hb4 := eqP_false.1 (notT hb4)
          exact absurd rfl hb4
        · skip
          replace hb4 := eqP_iff.1 (notF hb4)
          refine AW.skip ?_
          refine AW.seq ?_
          refine AW.region ?_
          refine AO.xs rfl rfl rfl (XS.assign rfl) ?_
          refine AO.nil ?_
          refine AW.ret ?_
          exact ⟨_, rfl, rfl⟩

end Go.Proofs.Ytgafdhpagifpcaa.C
