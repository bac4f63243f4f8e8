/-
  OWN WORK, printed by wip/tools/gen.py out of the translation and of the contracts in wip/specs.
-/
import Derived.Test.YtgafdhpagifpcaaC23
import Derived.Test.YtgafdhpagifpcaaN12
import Derived.Test.YtgafdhpagifpcaaAvB
namespace Go.Proofs.Ytgafdhpagifpcaa.C
open Go Go.RowKit Go.Proofs.Ytgafdhpagifpcaa.Av Go.Proofs.Ytgafdhpagifpcaa.Ty Go.Proofs.Ytgafdhpagifpcaa.Num
set_option linter.unusedVariables false


theorem bits_nil {s : ByteArray} (h : s.size = 0) : 8 * s.size = nl 2 (beN s) := by
  have h0 : beN s = 0 := Nat.lt_one_iff.1 (by have := beN_lt s; rw [h] at this; simpa using this)
  rw [h, h0, nl_zero]
theorem top_pos {s : ByteArray} (hg : greatOk s) (hp : 0 < s.size) : 0 < (s.data.getD 0 0).toNat := by
  refine Nat.pos_of_ne_zero (fun e => ?_)
  have hp' : 0 < s.data.size := hp
  have h2 : s.data.getD 0 0 = s.data[0] := by rw [Array.getD_eq_getD_getElem?, Array.getElem?_eq_getElem hp']; rfl
  rw [h2] at e
  exact hg.2 hp (UInt8.toNat_inj.1 (by simpa using e))

set_option maxRecDepth 100000 in
theorem bitsOf_c {s : ByteArray} (hg : greatOk s) : AC Try.prog 53 [strD s] (fun d => d = intD ((nl 2 (beN s) : Nat) : Int)) := by
  refine AC.intro Try.func53 Try.ntmps53 Try.results53 rfl (by simp) (fun w0 T => ?_)
  have hz := hg.1
  refine AW.seq ?_
  refine AW.region ?_
  refine AO.xs rfl rfl rfl (XS.assign rfl) ?_
  refine AO.nil ?_
  refine AW.seq ?_
  refine AW.seq ?_
  refine AW.region ?_
  refine AO.xs rfl rfl rfl (XS.move rfl) ?_
  refine AO.xs rfl rfl rfl (XS.call rfl (by kernel_rfl) rfl greatOkS_c) ?_
  refine AO.xs rfl rfl rfl (XS.not rfl) ?_
  refine AO.nil ?_
  refine AW.cond rfl (fun hb1 => ?_) (fun hb1 => ?_)
  · skip
    replace hb1 := eqP_false.1 (notT hb1)
    exact absurd hg hb1
  · skip
    replace hb1 := eqP_iff.1 (notF hb1)
    refine AW.skip ?_
    refine AW.seq ?_
    refine AW.region ?_
    refine AO.xs rfl rfl rfl (XS.move rfl) ?_
    refine AO.xs rfl rfl rfl (XS.lenStr rfl (st rfl)) ?_
    refine AO.xs rfl rfl rfl (XS.mulN (m := 8) rfl rfl (by omega)) ?_
    refine AO.xs rfl rfl rfl (XS.assign rfl) ?_
    refine AO.nil ?_
    refine AW.seq ?_
    refine AW.seq ?_
    refine AW.region ?_
    refine AO.xs rfl rfl rfl (XS.move rfl) ?_
    refine AO.xs rfl rfl rfl (XS.lenStr rfl (st rfl)) ?_
    refine AO.xs rfl rfl rfl (XS.int rfl rfl rfl) ?_
    refine AO.nil ?_
    refine AW.cond rfl (fun hb2 => ?_) (fun hb2 => ?_)
    · skip
      replace hb2 := of_decide_eq_true hb2
      have hp : 0 < s.size := by omega
      have hc0 := top_pos hg hp
      have hct := (s.data.getD 0 0).toNat_lt
      refine AW.seq ?_
      refine AW.region ?_
      refine AO.xs rfl rfl rfl (XS.move rfl) ?_
      refine AO.xs rfl rfl rfl (XS.indexN (j := 0) rfl rfl (st rfl) (by omega)) ?_
      refine AO.xs rfl rfl rfl (XS.assign rfl) ?_
      refine AO.nil ?_
      refine AW.block ?_
      refine AW.loop [2] (fun k => [(3, .d (intD ((8 * s.size - k : Nat) : Int))), (4, .d (.im (.int .u8 (((s.data.getD 0 0).toNat * 2 ^ k : Nat) : Int))))]) (fun _ => _) (fun k => k ≤ 7 ∧ (s.data.getD 0 0).toNat * 2 ^ k < 256) (fun k => 8 - k) (0) ⟨by omega, by rw [Nat.pow_zero, Nat.mul_one]; exact hct⟩ ⟨rfl, lk_D rfl (congrArg (fun z => Dv.im (.int .u8 z)) (congrArg Nat.cast (show (s.data.getD 0 0).toNat = (s.data.getD 0 0).toNat * 2 ^ 0 by rw [Nat.pow_zero, Nat.mul_one]))), trivial⟩ ⟨⟨_, rfl, rfl⟩, trivial⟩ rfl ?_
      intro k ⟨hk, hc⟩
      refine AW.seq ?_
      refine AW.seq ?_
      refine AW.region ?_
      refine AO.xs rfl rfl rfl (XS.move rfl) ?_
      refine AO.xs rfl rfl rfl (XS.int rfl rfl rfl) ?_
      refine AO.nil ?_
      refine AW.cond rfl (fun hb3 => ?_) (fun hb3 => ?_)
      · skip
        replace hb3 := of_decide_eq_true hb3
        refine AW.skip ?_
        refine AW.seq ?_
        refine AW.block ?_
        refine AW.region ?_
        refine AO.xs rfl rfl rfl (XS.move rfl) ?_
        refine AO.xs rfl rfl rfl (XS.subN (n := 1) rfl rfl (by omega)) ?_
        refine AO.xs rfl rfl rfl (XS.assign rfl) ?_
        refine AO.nil ?_
        refine AW.region ?_
        refine AO.xs rfl rfl rfl (XS.move rfl) ?_
        refine AO.xs rfl rfl rfl (XS.dblB rfl rfl (by omega)) ?_
        refine AO.xs rfl rfl rfl (XS.assign rfl) ?_
        refine AO.nil ?_
        exact ⟨k + 1, b_next hc0 (by omega), (by dsimp only; omega), ⟨lk_D rfl (intEq (congrArg Nat.cast (show _ = 8 * s.size - (k + 1) by omega))), lk_D rfl (congrArg (fun z => Dv.im (.int .u8 z)) (congrArg Nat.cast (show (s.data.getD 0 0).toNat * 2 ^ k * 2 = (s.data.getD 0 0).toNat * 2 ^ (k + 1) by rw [Nat.pow_succ, Nat.mul_assoc]))), trivial⟩, ⟨⟨_, rfl, rfl⟩, trivial⟩, rfl⟩
      · skip
        replace hb3 := of_decide_eq_false hb3
        refine AW.exit ?_
        refine AW.seq ?_
        refine AW.region ?_
        refine AO.xs rfl rfl rfl (XS.move rfl) ?_
        refine AO.xs rfl rfl rfl (XS.assign rfl) ?_
        refine AO.nil ?_
        refine AW.ret ?_
        exact ⟨_, rfl, congrArg intD (congrArg Nat.cast (bits_top hp hc (by omega) hk).symm)⟩
    · skip
      replace hb2 := of_decide_eq_false hb2
      refine AW.skip ?_
      refine AW.seq ?_
      refine AW.region ?_
      refine AO.xs rfl rfl rfl (XS.move rfl) ?_
      refine AO.xs rfl rfl rfl (XS.assign rfl) ?_
      refine AO.nil ?_
      refine AW.ret ?_
      exact ⟨_, rfl, congrArg intD (congrArg Nat.cast (bits_nil (by omega)))⟩

set_option maxRecDepth 100000 in
theorem bitOf_c {s : ByteArray} {i : Nat} (hg : greatOk s) (hi : i < 9223372036854775808) : AC Try.prog 72 [strD s, intD (i : Int)] (fun d => d = intD ((beN s / 2 ^ i % 2 : Nat) : Int)) := by
  refine AC.intro Try.func72 Try.ntmps72 Try.results72 rfl (by simp) (fun w0 T => ?_)
  have hz := hg.1
  have hbt := (s.data.getD (s.size - 1 - i / 8) 0).toNat_lt
  refine AW.seq ?_
  refine AW.region ?_
  refine AO.xs rfl rfl rfl (XS.assign rfl) ?_
  refine AO.nil ?_
  refine AW.seq ?_
  refine AW.seq ?_
  refine AW.region ?_
  refine AO.xs rfl rfl rfl (XS.move rfl) ?_
  refine AO.xs rfl rfl rfl (XS.call rfl (by kernel_rfl) rfl greatOkS_c) ?_
  refine AO.xs rfl rfl rfl (XS.not rfl) ?_
  refine AO.xs rfl rfl rfl (XS.move rfl) ?_
  refine AO.split 8 rfl (fun hg1 => ?_) (fun hg1 => ?_)
  · skip
    have hg1n := eqP_false.1 (notT hg1)
    refine AO.gno rfl rfl rfl rfl rfl rfl hg1 (by decide) rfl ?_
    refine AO.gno rfl rfl rfl rfl rfl rfl hg1 (by decide) rfl ?_
    refine AO.xs rfl rfl rfl (XS.pickT rfl rfl hg1) ?_
    refine AO.xs rfl rfl rfl (XS.move rfl) ?_
    refine AO.gno rfl rfl rfl rfl rfl rfl rfl (by decide) rfl ?_
    refine AO.gno rfl rfl rfl rfl rfl rfl rfl (by decide) rfl ?_
    refine AO.gno rfl rfl rfl rfl rfl rfl rfl (by decide) rfl ?_
    refine AO.gno rfl rfl rfl rfl rfl rfl rfl (by decide) rfl ?_
    refine AO.gno rfl rfl rfl rfl rfl rfl rfl (by decide) rfl ?_
    refine AO.xs rfl rfl rfl (XS.pickT rfl rfl rfl) ?_
    refine AO.nil ?_
    refine AW.condT rfl rfl ?_
    refine AW.seq ?_
    refine AW.region ?_
    refine AO.xs rfl rfl rfl (XS.assign rfl) ?_
    refine AO.nil ?_
    refine AW.ret ?_
    first | exact ⟨_, rfl, congrArg intD (congrArg Nat.cast (bit_none (by omega)).symm)⟩ | exact ⟨_, rfl, congrArg intD (congrArg Nat.cast (byte_bit (by omega)))⟩ | (exact absurd hg (by assumption)) | (exfalso; omega)
  · skip
    have hg1n := eqP_iff.1 (notF hg1)
    refine AO.gyes rfl rfl rfl rfl rfl rfl hg1 rfl (XS.move rfl) ?_
    refine AO.gyes rfl rfl rfl rfl rfl rfl hg1 rfl (XS.int rfl rfl rfl) ?_
    refine AO.xs rfl rfl rfl (XS.pickF rfl rfl hg1) ?_
    refine AO.xs rfl rfl rfl (XS.move rfl) ?_
    refine AO.split 12 rfl (fun hg2 => ?_) (fun hg2 => ?_)
    · skip
      have hg2n := of_decide_eq_true hg2
      refine AO.gno rfl rfl rfl rfl rfl rfl hg2 (by decide) rfl ?_
      refine AO.gno rfl rfl rfl rfl rfl rfl hg2 (by decide) rfl ?_
      refine AO.gno rfl rfl rfl rfl rfl rfl hg2 (by decide) rfl ?_
      refine AO.gno rfl rfl rfl rfl rfl rfl hg2 (by decide) rfl ?_
      refine AO.gno rfl rfl rfl rfl rfl rfl hg2 (by decide) rfl ?_
      refine AO.xs rfl rfl rfl (XS.pickT rfl rfl hg2) ?_
      refine AO.nil ?_
      refine AW.condT rfl rfl ?_
      refine AW.seq ?_
      refine AW.region ?_
      refine AO.xs rfl rfl rfl (XS.assign rfl) ?_
      refine AO.nil ?_
      refine AW.ret ?_
      first | exact ⟨_, rfl, congrArg intD (congrArg Nat.cast (bit_none (by omega)).symm)⟩ | exact ⟨_, rfl, congrArg intD (congrArg Nat.cast (byte_bit (by omega)))⟩ | (exact absurd hg (by assumption)) | (exfalso; omega)
    · skip
      have hg2n := of_decide_eq_false hg2
      refine AO.gyes rfl rfl rfl rfl rfl rfl hg2 rfl (XS.move rfl) ?_
      refine AO.gyes rfl rfl rfl rfl rfl rfl hg2 rfl (XS.quoI (n := 8) rfl rfl (by omega) (by omega)) ?_
      refine AO.gyes rfl rfl rfl rfl rfl rfl hg2 rfl (XS.move rfl) ?_
      refine AO.gyes rfl rfl rfl rfl rfl rfl hg2 rfl (XS.lenStr rfl (st rfl)) ?_
      refine AO.gyes rfl rfl rfl rfl rfl rfl hg2 rfl (XS.int rfl rfl rfl) ?_
      refine AO.xs rfl rfl rfl (XS.pickF rfl rfl hg2) ?_
      refine AO.nil ?_
      refine AW.cond rfl (fun hb3 => ?_) (fun hb3 => ?_)
      · skip
        replace hb3 := of_decide_eq_true hb3
        refine AW.seq ?_
        refine AW.region ?_
        refine AO.xs rfl rfl rfl (XS.assign rfl) ?_
        refine AO.nil ?_
        refine AW.ret ?_
        first | exact ⟨_, rfl, congrArg intD (congrArg Nat.cast (bit_none (by omega)).symm)⟩ | exact ⟨_, rfl, congrArg intD (congrArg Nat.cast (byte_bit (by omega)))⟩ | (exact absurd hg (by assumption)) | (exfalso; omega)
      · skip
        replace hb3 := of_decide_eq_false hb3
        refine AW.skip ?_
        refine AW.seq ?_
        refine AW.region ?_
        refine AO.xs rfl rfl rfl (XS.move rfl) ?_
        refine AO.xs rfl rfl rfl (XS.move rfl) ?_
        refine AO.xs rfl rfl rfl (XS.lenStr rfl (st rfl)) ?_
        refine AO.xs rfl rfl rfl (XS.subN (n := 1) rfl rfl (by omega)) ?_
        refine AO.xs rfl rfl rfl (XS.move rfl) ?_
        refine AO.xs rfl rfl rfl (XS.quoI (n := 8) rfl rfl (by omega) (by omega)) ?_
        refine AO.xs rfl rfl rfl (XS.subN rfl rfl (by omega)) ?_
        refine AO.xs rfl rfl rfl (XS.indexN rfl rfl (st rfl) (by omega)) ?_
        refine AO.xs rfl rfl rfl (XS.convI rfl (us rfl) (ik rfl) (by omega)) ?_
        refine AO.xs rfl rfl rfl (XS.move rfl) ?_
        refine AO.xs rfl rfl rfl (XS.remI (n := 8) rfl rfl (by omega)) ?_
        refine AO.xs rfl rfl rfl (XS.convU64 rfl (us rfl) (ik rfl)) ?_
        refine AO.tell 30 rfl (intEq (congrArg Nat.cast (show _ = i % 8 by omega))) ?_
        refine AO.xs rfl rfl rfl (XS.shrI rfl rfl (by omega)) ?_
        refine AO.xs rfl rfl rfl (XS.bitI rfl rfl (Nat.lt_of_le_of_lt (Nat.div_le_self _ _) (by omega))) ?_
        refine AO.xs rfl rfl rfl (XS.assign rfl) ?_
        refine AO.nil ?_
        refine AW.ret ?_
        first | exact ⟨_, rfl, congrArg intD (congrArg Nat.cast (bit_none (by omega)).symm)⟩ | exact ⟨_, rfl, congrArg intD (congrArg Nat.cast (byte_bit (by omega)))⟩ | (exact absurd hg (by assumption)) | (exfalso; omega)

set_option maxRecDepth 100000 in
theorem bit_c {n i : Nat} (hn : nl 18446744073709551616 n ≤ 1048576) (hi : i < 9223372036854775808) : AC Try.prog 77 [natD n, intD (i : Int)] (fun d => d = .im (.int .u64 ((n / 2 ^ i % 2 : Nat) : Int))) := by
  refine AC.intro Try.func77 Try.ntmps77 Try.results77 rfl (by simp) (fun w0 T => ?_)
  refine AW.seq ?_
  refine AW.region ?_
  refine AO.xs rfl rfl rfl (XS.assign rfl) ?_
  refine AO.nil ?_
  refine AW.seq ?_
  refine AW.seq ?_
  refine AW.region ?_
  refine AO.xs rfl rfl rfl (XS.move rfl) ?_
  refine AO.xs rfl rfl rfl (XS.int rfl rfl rfl) ?_
  refine AO.xs rfl rfl rfl (XS.move rfl) ?_
  refine AO.split 7 rfl (fun hg1 => ?_) (fun hg1 => ?_)
  · skip
    have hg1n := of_decide_eq_true hg1
    refine AO.gno rfl rfl rfl rfl rfl rfl hg1 (by decide) rfl ?_
    refine AO.gno rfl rfl rfl rfl rfl rfl hg1 (by decide) rfl ?_
    refine AO.gno rfl rfl rfl rfl rfl rfl hg1 (by decide) rfl ?_
    refine AO.gno rfl rfl rfl rfl rfl rfl hg1 (by decide) rfl ?_
    refine AO.gno rfl rfl rfl rfl rfl rfl hg1 (by decide) rfl ?_
    refine AO.xs rfl rfl rfl (XS.pickT rfl rfl hg1) ?_
    refine AO.nil ?_
    refine AW.condT rfl rfl ?_
    refine AW.seq ?_
    refine AW.region ?_
    refine AO.xs rfl rfl rfl (XS.assign rfl) ?_
    refine AO.nil ?_
    refine AW.ret ?_
    first | exact ⟨_, rfl, congrArg (fun z => Dv.im (.int .u64 z)) (congrArg Nat.cast (limb_none (by omega)).symm)⟩ | exact ⟨_, rfl, congrArg (fun z => Dv.im (.int .u64 z)) (congrArg Nat.cast limb_bit)⟩ | (exfalso; omega)
  · skip
    have hg1n := of_decide_eq_false hg1
    refine AO.gyes rfl rfl rfl rfl rfl rfl hg1 rfl (XS.move rfl) ?_
    refine AO.gyes rfl rfl rfl rfl rfl rfl hg1 rfl (XS.move rfl) ?_
    refine AO.gyes rfl rfl rfl rfl rfl rfl hg1 rfl (XS.lenL rfl (el rfl)) ?_
    refine AO.gyes rfl rfl rfl rfl rfl rfl hg1 rfl (XS.mulN (m := 64) rfl rfl (by omega)) ?_
    refine AO.gyes rfl rfl rfl rfl rfl rfl hg1 rfl (XS.int rfl rfl rfl) ?_
    refine AO.xs rfl rfl rfl (XS.pickF rfl rfl hg1) ?_
    refine AO.nil ?_
    refine AW.cond rfl (fun hb2 => ?_) (fun hb2 => ?_)
    · skip
      replace hb2 := of_decide_eq_true hb2
      refine AW.seq ?_
      refine AW.region ?_
      refine AO.xs rfl rfl rfl (XS.assign rfl) ?_
      refine AO.nil ?_
      refine AW.ret ?_
      first | exact ⟨_, rfl, congrArg (fun z => Dv.im (.int .u64 z)) (congrArg Nat.cast (limb_none (by omega)).symm)⟩ | exact ⟨_, rfl, congrArg (fun z => Dv.im (.int .u64 z)) (congrArg Nat.cast limb_bit)⟩ | (exfalso; omega)
    · skip
      replace hb2 := of_decide_eq_false hb2
      refine AW.skip ?_
      refine AW.seq ?_
      refine AW.region ?_
      refine AO.xs rfl rfl rfl (XS.move rfl) ?_
      refine AO.xs rfl rfl rfl (XS.move rfl) ?_
      refine AO.xs rfl rfl rfl (XS.quoI (n := 64) rfl rfl (by omega) (by omega)) ?_
      refine AO.xs rfl rfl rfl (XS.indexL rfl rfl (el rfl) (by omega)) ?_
      refine AO.xs rfl rfl rfl (XS.loadE rfl (on rfl) rfl) ?_
      refine AO.xs rfl rfl rfl (XS.move rfl) ?_
      refine AO.xs rfl rfl rfl (XS.remI (n := 64) rfl rfl (by omega)) ?_
      refine AO.xs rfl rfl rfl (XS.shrU rfl rfl (by omega)) ?_
      refine AO.xs rfl rfl rfl (XS.bitU rfl rfl (Nat.lt_of_le_of_lt (Nat.div_le_self _ _) (Nat.mod_lt _ (by decide)))) ?_
      refine AO.xs rfl rfl rfl (XS.assign rfl) ?_
      refine AO.nil ?_
      refine AW.ret ?_
      first | exact ⟨_, rfl, congrArg (fun z => Dv.im (.int .u64 z)) (congrArg Nat.cast (limb_none (by omega)).symm)⟩ | exact ⟨_, rfl, congrArg (fun z => Dv.im (.int .u64 z)) (congrArg Nat.cast limb_bit)⟩ | (exfalso; omega)

end Go.Proofs.Ytgafdhpagifpcaa.C
