/-
  OWN WORK, printed by wip/tools/gen.py out of the translation and of the contracts in wip/specs.
-/
import Derived.Test.YtgafdhpagifpcaaC18
import Derived.Test.YtgafdhpagifpcaaN9
namespace Go.Proofs.Ytgafdhpagifpcaa.C
open Go Go.RowKit Go.Proofs.Ytgafdhpagifpcaa.Av Go.Proofs.Ytgafdhpagifpcaa.Ty Go.Proofs.Ytgafdhpagifpcaa.Num
set_option linter.unusedVariables false

set_option maxRecDepth 100000 in
theorem up_c {a s : Nat} (ha : nl 18446744073709551616 a ≤ 1048576) (hs : s ≤ 63) : AR Try.prog 169 [natD a, intD (s : Int)] (nl 18446744073709551616 a + 1) 1 (nkD .u64 (fx 18446744073709551616 (nl 18446744073709551616 a + 1) (a * 2 ^ s))) := by
  refine AR.intro Try.func169 Try.ntmps169 Try.results169 rfl (by simp) (Nat.succ_pos _) (fun w0 T => ?_)
  refine AW.seq ?_
  refine AW.region ?_
  refine AO.xs rfl rfl rfl (XS.assign rfl) ?_
  refine AO.nil ?_
  refine AW.seq ?_
  refine AW.region ?_
  refine AO.xs rfl rfl rfl (XS.move rfl) ?_
  refine AO.xs rfl rfl rfl (XS.lenL rfl (el rfl)) ?_
  refine AO.xs rfl rfl rfl (XS.addN (n := 1) rfl rfl (by omega)) ?_
  refine AO.makeC (18446744073709551616) rfl rfl rfl rfl (ap rfl) (Nat.le_refl _) (by omega) ?_
  refine AO.xs rfl rfl rfl (XS.assign rfl) ?_
  refine AO.nil ?_
  refine AW.seq ?_
  refine AW.seq ?_
  refine AW.region ?_
  refine AO.xs rfl rfl rfl (XS.move rfl) ?_
  refine AO.xs rfl rfl rfl (XS.lenL rfl (el rfl)) ?_
  refine AO.xs rfl rfl rfl (XS.move rfl) ?_
  refine AO.nil ?_
  refine AW.block ?_
  refine AW.loop [1, 4, 5, 12, 13] (fun i => [(14, .d (intD ((i : Nat) : Int)))]) (fun i => [nkD .u64 (fx 18446744073709551616 (nl 18446744073709551616 a + 1) (a % 18446744073709551616 ^ i * 2 ^ s))]) (fun i => i ≤ nl 18446744073709551616 a) (fun i => nl 18446744073709551616 a - i) (0) (Nat.zero_le _) ⟨rfl, trivial⟩ ⟨⟨_, rfl, rfl⟩, ⟨_, rfl, rfl⟩, ⟨_, rfl, rfl⟩, ⟨_, rfl, rfl⟩, ⟨_, rfl, rfl⟩, trivial⟩ (congrArg (fun z => [nkD .u64 (fx _ _ z)]) (show 0 = a % 18446744073709551616 ^ 0 * 2 ^ s by rw [Nat.pow_zero, Nat.mod_one, Nat.zero_mul])) ?_
  intro i hi
  refine AW.seq ?_
  refine AW.region ?_
  refine AO.xs rfl rfl rfl (XS.int rfl rfl rfl) ?_
  refine AO.nil ?_
  refine AW.seq ?_
  refine AW.cond rfl (fun hb1 => ?_) (fun hb1 => ?_)
  · skip
    replace hb1 := of_decide_eq_true hb1
    refine AW.skip ?_
    refine AW.seq ?_
    refine AW.block ?_
    refine AW.seq ?_
    refine AW.region ?_
    refine AO.xs rfl rfl rfl (XS.move rfl) ?_
    refine AO.xs rfl rfl rfl (XS.indexL rfl rfl (el rfl) (by omega)) ?_
    refine AO.xs rfl rfl rfl (XS.loadE rfl (on rfl) rfl) ?_
    refine AO.xs rfl rfl rfl (XS.assign rfl) ?_
    refine AO.xs rfl rfl rfl (XS.assign rfl) ?_
    refine AO.nil ?_
    refine AW.seq ?_
    refine AW.drawn mix ?_
    refine DC.cons rfl rfl rfl (XS.move rfl) ?_
    refine DC.cons rfl rfl rfl (XS.move rfl) ?_
    refine DC.cons rfl rfl rfl (XS.indexR1 rfl rfl (el rfl) (by omega)) ?_
    refine DC.cons rfl rfl rfl (XS.loadL rfl (on rfl) rfl (by omega)) ?_
    refine DC.cons rfl rfl rfl (XS.move rfl) ?_
    refine DC.cons rfl rfl rfl (XS.move rfl) ?_
    refine DC.cons rfl rfl rfl (XS.shlU rfl rfl) ?_
    refine DC.cons rfl rfl rfl ((XS.orU rfl rfl (Nat.mod_lt _ (by decide)) (Nat.mod_lt _ (by decide))).toI (congrArg Nat.cast (or_shl (up_old hs) (by omega)))) ?_
    refine DC.cons rfl rfl rfl (XS.indexR1 rfl rfl (el rfl) (by omega)) ?_
    refine DC.done (by kernel_rfl) ?_
    refine AO.storeL rfl rfl rfl (sz rfl) rfl (by omega) (setd_set (by decide) (by omega) (shl_lt (up_old hs) (by omega))) rfl ?_
    refine AO.nil ?_
    refine AW.region ?_
    refine AO.xs rfl rfl rfl (XS.move rfl) ?_
    refine AO.xs rfl rfl rfl (XS.move rfl) ?_
    refine AO.xs rfl rfl rfl (XS.addN (n := 1) rfl rfl (by omega)) ?_
    refine AO.xs rfl rfl rfl (XS.move rfl) ?_
    refine AO.xs rfl rfl rfl (XS.move rfl) ?_
    refine AO.xs rfl rfl rfl (XS.subN (m := 64) rfl rfl (by omega)) ?_
    refine AO.xs rfl rfl rfl (XS.shrU rfl rfl (by omega)) ?_
    refine AO.xs rfl rfl rfl (XS.indexR1 rfl rfl (el rfl) (by omega)) ?_
    refine AO.storeL rfl rfl rfl (sz rfl) rfl (by omega) (up_set hs (by omega)) rfl ?_
    refine AO.nil ?_
    refine AW.region ?_
    refine AO.xs rfl rfl rfl (XS.addN (n := 1) rfl rfl (by omega)) ?_
    refine AO.xs rfl rfl rfl (XS.move rfl) ?_
    refine AO.nil ?_
    exact ⟨i + 1, (by omega), (by dsimp only; omega), ⟨rfl, trivial⟩, ⟨⟨_, rfl, rfl⟩, ⟨_, rfl, rfl⟩, ⟨_, rfl, rfl⟩, ⟨_, rfl, rfl⟩, ⟨_, rfl, rfl⟩, trivial⟩, rfl⟩
  · skip
    replace hb1 := of_decide_eq_false hb1
    obtain rfl : i = nl 18446744073709551616 a := by omega
    refine AW.setH (congrArg (fun z => [nkD .u64 (fx _ _ (z * 2 ^ s))]) (Nat.mod_eq_of_lt (lt_nl (b := 18446744073709551616) (by decide) a))) ?_
    refine AW.exit ?_
    refine AW.seq ?_
    refine AW.region ?_
    refine AO.xs rfl rfl rfl (XS.move rfl) ?_
    refine AO.xs rfl rfl rfl (XS.assign rfl) ?_
    refine AO.nil ?_
    refine AW.ret ?_
    exact ⟨_, _, rfl, rfl, rfl⟩

set_option maxRecDepth 100000 in
theorem clone_c {ns : List Nat} {K : Nat} (hK : ns.length = K) (h0 : 0 < K) (hn : K ≤ 1048576) : AR Try.prog 181 [limbsD .u64 ns] K 1 (nkD .u64 ns) := by
  refine AR.intro Try.func181 Try.ntmps181 Try.results181 rfl (by simp) h0 (fun w0 T => ?_)
  refine AW.seq ?_
  refine AW.region ?_
  refine AO.xs rfl rfl rfl (XS.assign rfl) ?_
  refine AO.nil ?_
  refine AW.seq ?_
  refine AW.seq ?_
  refine AW.region ?_
  refine AO.xs rfl rfl rfl (XS.move rfl) ?_
  refine AO.xs rfl rfl rfl (XS.slNil rfl (by rw [List.length_map]; omega) (el rfl)) ?_
  refine AO.nil ?_
  refine AW.cond rfl (fun hb1 => ?_) (fun hb1 => ?_)
  · skip
    cases hb1
  · skip
    refine AW.skip ?_
    refine AW.seq ?_
    refine AW.region ?_
    refine AO.lit0 rfl rfl (ap rfl) ?_
    refine AO.xs rfl rfl rfl (XS.move rfl) ?_
    refine AO.cloneL rfl rfl rfl rfl hK (ap rfl) (el rfl) (Nat.zero_le _) rfl (by omega) (by simp only [maxLen]; omega) rfl ?_
    refine AO.xs rfl rfl rfl (XS.assign rfl) ?_
    refine AO.nil ?_
    refine AW.ret ?_
    exact ⟨_, _, rfl, rfl, rfl⟩

set_option maxRecDepth 100000 in
theorem down_c {k U s : Nat} (hk : k ≤ 1048576) (h0 : 0 < k) (hs : s ≤ 63) (hU : U < 18446744073709551616 ^ k) : AC Try.prog 171 [limbsD .u64 (fx 18446744073709551616 k U), intD (s : Int)] (fun d => d = natD (U / 2 ^ s)) := by
  refine AC.intro Try.func171 Try.ntmps171 Try.results171 rfl (by simp) (fun w0 T => ?_)
  refine AW.seq ?_
  refine AW.region ?_
  refine AO.xs rfl rfl rfl (XS.assign rfl) ?_
  refine AO.nil ?_
  refine AW.seq ?_
  refine AW.region ?_
  refine AO.xs rfl rfl rfl (XS.move rfl) ?_
  refine AO.callR rfl rfl rfl (by kernel_rfl) rfl rfl (Nat.zero_le _) (clone_c (fx_len _ k _) h0 hk) ?_
  refine AO.xs rfl rfl rfl (XS.assign rfl) ?_
  refine AO.nil ?_
  refine AW.seq ?_
  refine AW.seq ?_
  refine AW.region ?_
  refine AO.xs rfl rfl rfl (XS.move rfl) ?_
  refine AO.xs rfl rfl rfl (XS.lenR rfl (el rfl)) ?_
  refine AO.xs rfl rfl rfl (XS.move rfl) ?_
  refine AO.nil ?_
  refine AW.block ?_
  refine AW.loop [0, 1, 4, 5, 10] (fun i => [(11, .d (intD ((i : Nat) : Int)))]) (fun i => [nkD .u64 (fx 18446744073709551616 k (dn 18446744073709551616 U s i))]) (fun i => i ≤ k) (fun i => k - i) (0) (Nat.zero_le _) ⟨rfl, trivial⟩ ⟨⟨_, rfl, rfl⟩, ⟨_, rfl, rfl⟩, ⟨_, rfl, rfl⟩, ⟨_, rfl, rfl⟩, ⟨_, rfl, rfl⟩, trivial⟩ (congrArg (fun z => [nkD .u64 (fx _ _ z)]) dn_zero.symm) ?_
  intro i hi
  have hxl := dn_one (U := U) (i := i) (s := s)
  obtain ⟨hd1, hd2⟩ := dn_digit (U := U) (i := i) hs
  refine AW.seq ?_
  refine AW.region ?_
  refine AO.xs rfl rfl rfl (XS.int rfl rfl rfl) ?_
  refine AO.nil ?_
  refine AW.seq ?_
  refine AW.cond rfl (fun hb1 => ?_) (fun hb1 => ?_)
  · skip
    replace hb1 := of_decide_eq_true hb1
    refine AW.skip ?_
    refine AW.seq ?_
    refine AW.block ?_
    refine AW.seq ?_
    refine AW.region ?_
    refine AO.xs rfl rfl rfl (XS.move rfl) ?_
    refine AO.xs rfl rfl rfl (XS.assign rfl) ?_
    refine AO.nil ?_
    refine AW.seq ?_
    refine AW.region ?_
    refine AO.xs rfl rfl rfl (XS.move rfl) ?_
    refine AO.xs rfl rfl rfl (XS.move rfl) ?_
    refine AO.xs rfl rfl rfl (XS.indexR1 rfl rfl (el rfl) (by omega)) ?_
    refine AO.xs rfl rfl rfl (XS.loadL rfl (on rfl) rfl (by omega)) ?_
    refine AO.tell 17 rfl (intEq (congrArg Nat.cast (show _ = U / 18446744073709551616 ^ i % 18446744073709551616 by rw [dn_dig (by decide)]))) ?_
    refine AO.xs rfl rfl rfl (XS.move rfl) ?_
    refine AO.xs rfl rfl rfl (XS.shrU rfl rfl (by omega)) ?_
    refine AO.xs rfl rfl rfl (XS.indexR1 rfl rfl (el rfl) (by omega)) ?_
    refine AO.storeL rfl rfl rfl (sz rfl) rfl (by omega) (setd_set (by decide) (by omega) hxl) rfl ?_
    refine AO.nil ?_
    refine AW.seq ?_
    refine AW.region ?_
    refine AO.xs rfl rfl rfl (XS.move rfl) ?_
    refine AO.xs rfl rfl rfl (XS.addN (n := 1) rfl rfl (by omega)) ?_
    refine AO.xs rfl rfl rfl (XS.move rfl) ?_
    refine AO.xs rfl rfl rfl (XS.lenL rfl (el rfl)) ?_
    refine AO.xs rfl rfl rfl (XS.int rfl rfl rfl) ?_
    refine AO.nil ?_
    refine AW.cond rfl (fun hb2 => ?_) (fun hb2 => ?_)
    · skip
      replace hb2 := of_decide_eq_true hb2
      refine AW.drawn mix ?_
      refine DC.cons rfl rfl rfl (XS.move rfl) ?_
      refine DC.cons rfl rfl rfl (XS.move rfl) ?_
      refine DC.cons rfl rfl rfl (XS.indexR1 rfl rfl (el rfl) (by omega)) ?_
      refine DC.cons rfl rfl rfl ((XS.loadL rfl (on rfl) rfl (by omega)).toI (congrArg Nat.cast (show _ = U / 18446744073709551616 ^ i % 18446744073709551616 / 2 ^ s by rw [setd_dig (by decide) hxl, Nat.mul_comm, Nat.mul_add_mod, Nat.mod_eq_of_lt hxl]))) ?_
      refine DC.cons rfl rfl rfl (XS.move rfl) ?_
      refine DC.cons rfl rfl rfl (XS.move rfl) ?_
      refine DC.cons rfl rfl rfl (XS.addN (n := 1) rfl rfl (by omega)) ?_
      refine DC.cons rfl rfl rfl (XS.indexL rfl rfl (el rfl) (by omega)) ?_
      refine DC.cons rfl rfl rfl (XS.loadE rfl (on rfl) rfl) ?_
      refine DC.cons rfl rfl rfl (XS.move rfl) ?_
      refine DC.cons rfl rfl rfl (XS.subN (m := 64) rfl rfl (by omega)) ?_
      refine DC.cons rfl rfl rfl (XS.shlU rfl rfl) ?_
      refine DC.cons rfl rfl rfl ((XS.orU rfl rfl hxl (Nat.mod_lt _ (by decide))).toI (congrArg Nat.cast ((or_shl hd2 (by omega)).trans hd1))) ?_
      refine DC.cons rfl rfl rfl (XS.indexR1 rfl rfl (el rfl) (by omega)) ?_
      refine DC.done (by kernel_rfl) ?_
      refine AO.storeL rfl rfl rfl (sz rfl) rfl (by omega) (dn_two (by decide) (by omega) hxl rfl) rfl ?_
      refine AO.nil ?_
      refine AW.region ?_
      refine AO.xs rfl rfl rfl (XS.addN (n := 1) rfl rfl (by omega)) ?_
      refine AO.xs rfl rfl rfl (XS.move rfl) ?_
      refine AO.nil ?_
      exact ⟨i + 1, (by omega), (by dsimp only; omega), ⟨rfl, trivial⟩, ⟨⟨_, rfl, rfl⟩, ⟨_, rfl, rfl⟩, ⟨_, rfl, rfl⟩, ⟨_, rfl, rfl⟩, ⟨_, rfl, rfl⟩, trivial⟩, rfl⟩
    · skip
      replace hb2 := of_decide_eq_false hb2
      refine AW.skip ?_
      refine AW.region ?_
      refine AO.xs rfl rfl rfl (XS.addN (n := 1) rfl rfl (by omega)) ?_
      refine AO.xs rfl rfl rfl (XS.move rfl) ?_
      refine AO.nil ?_
      exact ⟨i + 1, (by omega), (by dsimp only; omega), ⟨rfl, trivial⟩, ⟨⟨_, rfl, rfl⟩, ⟨_, rfl, rfl⟩, ⟨_, rfl, rfl⟩, ⟨_, rfl, rfl⟩, ⟨_, rfl, rfl⟩, trivial⟩, (congrArg (fun z => [nkD .u64 z]) ((setd_set (by decide) (by omega) hxl).symm.trans (dn_set (by decide) (by omega) (dn_end (by omega) hs hU))))⟩
  · skip
    replace hb1 := of_decide_eq_false hb1
    obtain rfl : i = k := by omega
    refine AW.setH (congrArg (fun z => [nkD .u64 (fx _ _ z)]) (dn_all hU)) ?_
    refine AW.exit ?_
    refine AW.seq ?_
    refine AW.region ?_
    refine AO.xs rfl rfl rfl (XS.move rfl) ?_
    refine AO.freezeL 41 rfl (Nat.zero_le _) rfl (fx_len _ _ _).symm ?_
    refine AO.xs rfl rfl rfl (XS.call rfl (by kernel_rfl) rfl (trim_c (by omega) (Nat.lt_of_le_of_lt (Nat.div_le_self _ _) hU))) ?_
    refine AO.xs rfl rfl rfl (XS.assign rfl) ?_
    refine AO.nil ?_
    refine AW.ret ?_
    exact ⟨_, rfl, rfl⟩

set_option maxRecDepth 100000 in
theorem clone0_v {A : Option Addr} {cp : Nat} : AC Try.prog 181 [.im (.slice A 0 cp)] (fun d => d = .sl []) := by
  refine AC.intro Try.func181 Try.ntmps181 Try.results181 rfl (by simp) (fun w0 T => ?_)
  refine AW.seq ?_
  refine AW.region ?_
  refine AO.xs rfl rfl rfl (XS.assign rfl) ?_
  refine AO.nil ?_
  refine AW.seq ?_
  refine AW.seq ?_
  refine AW.region ?_
  refine AO.xs rfl rfl rfl (XS.move rfl) ?_
  refine AO.xs rfl rfl rfl (XS.slNilV rfl (el rfl)) ?_
  refine AO.nil ?_
  refine AW.cond rfl (fun hb1 => ?_) (fun hb1 => ?_)
  · skip
    refine AW.seq ?_
    refine AW.region ?_
    refine AO.xs rfl rfl rfl (XS.assign rfl) ?_
    refine AO.nil ?_
    refine AW.ret ?_
    exact ⟨_, rfl, rfl⟩
  · skip
    refine AW.skip ?_
    refine AW.seq ?_
    refine AW.region ?_
    refine AO.lit0 rfl rfl (ap rfl) ?_
    refine AO.xs rfl rfl rfl (XS.move rfl) ?_
    refine AO.unsl 6 rfl ?_
    refine AO.cloneL (k := .u64) (ns := []) (K := 0) rfl rfl rfl rfl rfl (ap rfl) (el rfl) (Nat.zero_le _) rfl (by decide) (by decide) rfl ?_
    refine AO.xs rfl rfl rfl (XS.assign rfl) ?_
    refine AO.freezeL (k := .u64) (ns := []) 2 rfl (Nat.zero_le _) rfl rfl ?_
    refine AO.nil ?_
    refine AW.ret ?_
    exact ⟨_, rfl, rfl⟩

theorem clone0_z : AC Try.prog 181 [natD 0] (fun d => d = natD 0) := by
  rw [natD_zero]; exact AC.of_sl0 fun A cp => clone0_v

theorem trim0_c : AC Try.prog 131 [natD 0] (fun d => d = natD 0) := by
  have h := trim_c (k := 0) (V := 0) (by omega) (by decide)
  rw [show limbsD .u64 (fx 18446744073709551616 0 0) = natD 0 from natD_zero.symm] at h
  exact h

set_option maxRecDepth 100000 in
theorem down0_c {s : Nat} (hs : s ≤ 63) : AC Try.prog 171 [natD 0, intD (s : Int)] (fun d => d = natD 0) := by
  refine AC.intro Try.func171 Try.ntmps171 Try.results171 rfl (by simp) (fun w0 T => ?_)
  refine AW.seq ?_
  refine AW.region ?_
  refine AO.xs rfl rfl rfl (XS.assign rfl) ?_
  refine AO.nil ?_
  refine AW.seq ?_
  refine AW.region ?_
  refine AO.xs rfl rfl rfl (XS.move rfl) ?_
  refine AO.xs rfl rfl rfl (XS.call rfl (by kernel_rfl) rfl (clone0_z)) ?_
  refine AO.xs rfl rfl rfl (XS.assign rfl) ?_
  refine AO.nil ?_
  refine AW.seq ?_
  refine AW.seq ?_
  refine AW.region ?_
  refine AO.xs rfl rfl rfl (XS.move rfl) ?_
  refine AO.xs rfl rfl rfl (XS.lenL rfl (el rfl)) ?_
  refine AO.xs rfl rfl rfl (XS.move rfl) ?_
  refine AO.nil ?_
  refine AW.block ?_
  refine AW.loop [0, 1, 4, 5, 10] (fun (_ : Unit) => [(11, .d (intD ((0 : Nat) : Int)))]) (fun _ => _) (fun _ => True) (fun _ => 0) (()) trivial ⟨rfl, trivial⟩ ⟨⟨_, rfl, rfl⟩, ⟨_, rfl, rfl⟩, ⟨_, rfl, rfl⟩, ⟨_, rfl, rfl⟩, ⟨_, rfl, rfl⟩, trivial⟩ rfl ?_
  intro _ _
  refine AW.seq ?_
  refine AW.region ?_
  refine AO.xs rfl rfl rfl (XS.int rfl rfl rfl) ?_
  refine AO.nil ?_
  refine AW.seq ?_
  refine AW.cond rfl (fun hb1 => ?_) (fun hb1 => ?_)
  · skip
    replace hb1 := of_decide_eq_true hb1
    rw [nl_zero] at hb1
    exact absurd hb1 (by decide)
  · skip
    replace hb1 := of_decide_eq_false hb1
    refine AW.exit ?_
    refine AW.seq ?_
    refine AW.region ?_
    refine AO.xs rfl rfl rfl (XS.move rfl) ?_
    refine AO.xs rfl rfl rfl (XS.call rfl (by kernel_rfl) rfl trim0_c) ?_
    refine AO.xs rfl rfl rfl (XS.assign rfl) ?_
    refine AO.nil ?_
    refine AW.ret ?_
    exact ⟨_, rfl, rfl⟩

theorem downN_c {U s : Nat} (hU : nl 18446744073709551616 U ≤ 1048576) (hs : s ≤ 63) : AC Try.prog 171 [natD U, intD (s : Int)] (fun d => d = natD (U / 2 ^ s)) := by
  rcases Nat.eq_zero_or_pos U with rfl | h
  · rw [Nat.zero_div]; exact down0_c hs
  · exact down_c hU (Nat.pos_of_ne_zero fun e => by rw [nl_eq_zero (by decide)] at e; omega) hs (lt_nl (by decide) U)

end Go.Proofs.Ytgafdhpagifpcaa.C
