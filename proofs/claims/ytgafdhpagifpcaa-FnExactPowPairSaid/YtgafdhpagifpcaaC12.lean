/-
  OWN WORK, printed by wip/tools/gen.py out of the translation and of the contracts in wip/specs.
-/
import Derived.Test.YtgafdhpagifpcaaC11
namespace Go.Proofs.Ytgafdhpagifpcaa.C
open Go Go.RowKit Go.Proofs.Ytgafdhpagifpcaa.Av Go.Proofs.Ytgafdhpagifpcaa.Ty Go.Proofs.Ytgafdhpagifpcaa.Num
set_option linter.unusedVariables false


theorem add_snoc {b m n i : Nat} (hb : 0 < b) : fx b i (m + n) ++ [(m / b ^ i % b + carry b m n i + n / b ^ i % b) % b] = fx b (i + 1) (m + n) := by
  rw [fx_snoc, add_digit hb, Nat.add_right_comm]

set_option maxRecDepth 100000 in
theorem l02In_c {s : ByteArray} (hs : s.size ≤ 1048576) : AC Try.prog 62 [strD s] (fun d => d = limD (beN s)) := by
  refine AC.intro Try.func62 Try.ntmps62 Try.results62 rfl (by simp) (fun w0 T => ?_)
  refine AW.seq ?_
  refine AW.region ?_
  refine AO.xs rfl rfl rfl (XS.assign rfl) ?_
  refine AO.nil ?_
  refine AW.seq ?_
  refine AW.region ?_
  refine AO.lit0 rfl rfl (ap rfl) ?_
  refine AO.xs rfl rfl rfl (XS.assign rfl) ?_
  refine AO.nil ?_
  refine AW.seq ?_
  refine AW.seq ?_
  refine AW.region ?_
  refine AO.xs rfl rfl rfl (XS.move rfl) ?_
  refine AO.xs rfl rfl rfl (XS.lenStr rfl (st rfl)) ?_
  refine AO.xs rfl rfl rfl (XS.assign rfl) ?_
  refine AO.nil ?_
  refine AW.block ?_
  refine AW.loop [0, 2] (fun i => [(3, .r 0 i 1), (4, .d (intD ((s.size : Int) - 3 * ((i : Nat) : Int))))]) (fun i => [nkD .i64 (fx 16777216 i (beN s))]) (fun i => 3 * i ≤ s.size + 2) (fun i => s.size - 3 * i) (0) (by omega) ⟨rfl, lk_D rfl (intEq (by omega)), trivial⟩ ⟨⟨_, rfl, rfl⟩, ⟨_, rfl, rfl⟩, trivial⟩ rfl ?_
  intro i hi
  refine AW.seq ?_
  refine AW.seq ?_
  refine AW.region ?_
  refine AO.xs rfl rfl rfl (XS.move rfl) ?_
  refine AO.xs rfl rfl rfl (XS.int rfl rfl rfl) ?_
  refine AO.nil ?_
  refine AW.cond rfl (fun hb1 => ?_) (fun hb1 => ?_)
  · skip
    replace hb1 := of_decide_eq_true hb1
    refine AW.skip ?_
    refine AW.seq ?_
    refine AW.block ?_
    refine AW.seq ?_
    refine AW.region ?_
    refine AO.xs rfl rfl rfl (XS.assign rfl) ?_
    refine AO.nil ?_
    refine AW.seq ?_
    refine AW.seq ?_
    refine AW.region ?_
    refine AO.xs rfl rfl rfl (XS.move rfl) ?_
    refine AO.xs rfl rfl rfl (XS.subI rfl rfl (by omega)) ?_
    refine AO.xs rfl rfl rfl (XS.assign rfl) ?_
    refine AO.nil ?_
    refine AW.block ?_
    refine AW.loop [0, 2, 3, 4, 10, 11, 14, 15] (fun t => [(5, .d (intD ((lpart s i t : Nat) : Int))), (6, .d (intD ((s.size : Int) - 3 * i - 3 + ((t : Nat) : Int))))]) (fun _ => _) (fun t => t ≤ 3) (fun t => 3 - t) (0) (by omega) ⟨lk_D rfl (by rw [lpart_zero]; rfl), lk_D rfl (intEq (by omega)), trivial⟩ ⟨⟨_, rfl, rfl⟩, ⟨_, rfl, rfl⟩, ⟨_, rfl, rfl⟩, ⟨_, rfl, rfl⟩, ⟨_, rfl, rfl⟩, ⟨_, rfl, rfl⟩, ⟨_, rfl, rfl⟩, ⟨_, rfl, rfl⟩, trivial⟩ rfl ?_
    intro t ht
    refine AW.seq ?_
    refine AW.seq ?_
    refine AW.region ?_
    refine AO.xs rfl rfl rfl (XS.move rfl) ?_
    refine AO.xs rfl rfl rfl (XS.move rfl) ?_
    refine AO.xs rfl rfl rfl (XS.int rfl rfl rfl) ?_
    refine AO.nil ?_
    refine AW.cond rfl (fun hb2 => ?_) (fun hb2 => ?_)
    · skip
      replace hb2 := of_decide_eq_true hb2
      have k1 := lpart_small (s := s) (i := i) (t := t) (by omega)
      refine AW.skip ?_
      refine AW.cutS [0, 2, 3, 4, 10, 11, 14, 15, 16, 17, 18] (fun (_ : Unit) => [(5, .d (intD ((lpart s i (t + 1) : Nat) : Int))), (6, .d (intD ((s.size : Int) - 3 * i - 3 + t)))]) (fun _ => True) ?_ ?_
      · skip
        refine AW.block ?_
        refine AW.seq ?_
        refine AW.region ?_
        refine AO.xs rfl rfl rfl (XS.move rfl) ?_
        refine AO.xs rfl rfl rfl (XS.int rfl rfl rfl) ?_
        refine AO.nil ?_
        refine AW.cond rfl (fun hb3 => ?_) (fun hb3 => ?_)
        · skip
          replace hb3 := of_decide_eq_true hb3
          obtain ⟨j, hj⟩ : ∃ j : Nat, (s.size : Int) - 3 * i - 3 + t = (j : Int) := ⟨((s.size : Int) - 3 * i - 3 + t).toNat, by omega⟩
          have kj := (s.data.getD j 0).toNat_lt
          refine AW.tell 6 rfl (intEq hj) ?_
          refine AW.region ?_
          refine AO.xs rfl rfl rfl (XS.move rfl) ?_
          refine AO.xs rfl rfl rfl (XS.mulN (m := 256) rfl rfl (by omega)) ?_
          refine AO.xs rfl rfl rfl (XS.move rfl) ?_
          refine AO.xs rfl rfl rfl (XS.move rfl) ?_
          refine AO.xs rfl rfl rfl (XS.indexN rfl rfl (st rfl) (by omega)) ?_
          refine AO.xs rfl rfl rfl (XS.convI rfl (us rfl) (ik rfl) (by omega)) ?_
          refine AO.xs rfl rfl rfl (XS.addN rfl rfl (by omega)) ?_
          refine AO.xs rfl rfl rfl (XS.assign rfl) ?_
          refine AO.nil ?_
          exact ⟨(), trivial, ⟨lk_D rfl (intEq (by rw [lpart_byte (j := j) (by omega) (by omega)])), lk_D rfl (intEq hj.symm), trivial⟩, ⟨⟨_, rfl, rfl⟩, ⟨_, rfl, rfl⟩, ⟨_, rfl, rfl⟩, ⟨_, rfl, rfl⟩, ⟨_, rfl, rfl⟩, ⟨_, rfl, rfl⟩, ⟨_, rfl, rfl⟩, ⟨_, rfl, rfl⟩, ⟨_, rfl, rfl⟩, ⟨_, rfl, rfl⟩, ⟨_, rfl, rfl⟩, trivial⟩, rfl⟩
        · skip
          replace hb3 := of_decide_eq_false hb3
          refine AW.skip ?_
          exact ⟨(), trivial, ⟨lk_D rfl (intEq (by rw [lpart_none (by omega) (by omega)])), rfl, trivial⟩, ⟨⟨_, rfl, rfl⟩, ⟨_, rfl, rfl⟩, ⟨_, rfl, rfl⟩, ⟨_, rfl, rfl⟩, ⟨_, rfl, rfl⟩, ⟨_, rfl, rfl⟩, ⟨_, rfl, rfl⟩, ⟨_, rfl, rfl⟩, ⟨_, rfl, rfl⟩, ⟨_, rfl, rfl⟩, ⟨_, rfl, rfl⟩, trivial⟩, rfl⟩
      · skip
        intro _ _
        refine AW.region ?_
        refine AO.xs rfl rfl rfl (XS.move rfl) ?_
        refine AO.xs rfl rfl rfl (XS.addI rfl rfl (by omega)) ?_
        refine AO.xs rfl rfl rfl (XS.assign rfl) ?_
        refine AO.nil ?_
        exact ⟨t + 1, (by omega), (by dsimp only; omega), ⟨rfl, lk_D rfl (intEq (by omega)), trivial⟩, ⟨⟨_, rfl, rfl⟩, ⟨_, rfl, rfl⟩, ⟨_, rfl, rfl⟩, ⟨_, rfl, rfl⟩, ⟨_, rfl, rfl⟩, ⟨_, rfl, rfl⟩, ⟨_, rfl, rfl⟩, ⟨_, rfl, rfl⟩, trivial⟩, rfl⟩
    · skip
      replace hb2 := of_decide_eq_false hb2
      obtain rfl : t = 3 := by omega
      refine AW.exit ?_
      refine AW.region ?_
      refine AO.xs rfl rfl rfl (XS.move rfl) ?_
      refine AO.xs rfl rfl rfl (XS.move rfl) ?_
      refine AO.xs rfl rfl rfl (XS.buildSlice (ap rfl) rfl rfl rfl (by decide)) ?_
      refine AO.appendL rfl rfl rfl rfl (ap rfl) (el rfl) (Nat.zero_le _) rfl (fx_len _ _ _) (by omega) (by simp only [maxLen]; omega) rfl ?_
      refine AO.xs rfl rfl rfl (XS.assign rfl) ?_
      refine AO.nil ?_
      refine AW.region ?_
      refine AO.xs rfl rfl rfl (XS.move rfl) ?_
      refine AO.xs rfl rfl rfl (XS.subI rfl rfl (by omega)) ?_
      refine AO.xs rfl rfl rfl (XS.assign rfl) ?_
      refine AO.nil ?_
      exact ⟨i + 1, (by omega), (by dsimp only; omega), ⟨rfl, lk_D rfl (intEq (by omega)), trivial⟩, ⟨⟨_, rfl, rfl⟩, ⟨_, rfl, rfl⟩, trivial⟩, (congrArg (fun z => [nkD .i64 z]) (by rw [lpart_all, ← fx_snoc]))⟩
  · skip
    replace hb1 := of_decide_eq_false hb1
    refine AW.exit ?_
    refine AW.seq ?_
    refine AW.region ?_
    refine AO.xs rfl rfl rfl (XS.move rfl) ?_
    refine AO.freezeL 34 rfl (Nat.zero_le _) rfl (fx_len _ _ _).symm ?_
    refine AO.xs rfl rfl rfl (XS.call rfl (by kernel_rfl) rfl (l02Trim_c (by omega) (l02In_lt (by omega)))) ?_
    refine AO.xs rfl rfl rfl (XS.assign rfl) ?_
    refine AO.nil ?_
    refine AW.ret ?_
    exact ⟨_, rfl, rfl⟩

set_option maxRecDepth 100000 in
theorem l02Out_c {n : Nat} (hn : nl 16777216 n ≤ 1048576) : AC Try.prog 98 [limD n] (fun d => d = strD (strN n)) := by
  refine AC.intro Try.func98 Try.ntmps98 Try.results98 rfl (by simp) (fun w0 T => ?_)
  refine AW.seq ?_
  refine AW.region ?_
  refine AO.xs rfl rfl rfl (XS.assign rfl) ?_
  refine AO.nil ?_
  refine AW.seq ?_
  refine AW.region ?_
  refine AO.xs rfl rfl rfl (XS.move rfl) ?_
  refine AO.xs rfl rfl rfl (XS.lenL rfl (el rfl)) ?_
  refine AO.xs rfl rfl rfl (XS.mulN (m := 3) rfl rfl (by omega)) ?_
  refine AO.makeC (256) rfl rfl rfl rfl (ap rfl) (Nat.le_refl _) (by omega) ?_
  refine AO.xs rfl rfl rfl (XS.assign rfl) ?_
  refine AO.nil ?_
  refine AW.seq ?_
  refine AW.seq ?_
  refine AW.region ?_
  refine AO.xs rfl rfl rfl (XS.assign rfl) ?_
  refine AO.nil ?_
  refine AW.block ?_
  refine AW.loop [0, 2, 3] (fun i => [(4, .d (intD ((i : Nat) : Int)))]) (fun i => [nkD .u8 (fx 256 (3 * nl 16777216 n) (n % 16777216 ^ i)).reverse]) (fun i => i ≤ nl 16777216 n) (fun i => nl 16777216 n - i) (0) (Nat.zero_le _) ⟨rfl, trivial⟩ ⟨⟨_, rfl, rfl⟩, ⟨_, rfl, rfl⟩, ⟨_, rfl, rfl⟩, trivial⟩ (by rw [Nat.pow_zero, Nat.mod_one, fx_zero, List.reverse_replicate]; rfl) ?_
  intro i hi
  refine AW.seq ?_
  refine AW.seq ?_
  refine AW.region ?_
  refine AO.xs rfl rfl rfl (XS.move rfl) ?_
  refine AO.xs rfl rfl rfl (XS.move rfl) ?_
  refine AO.xs rfl rfl rfl (XS.lenL rfl (el rfl)) ?_
  refine AO.xs rfl rfl rfl (XS.int rfl rfl rfl) ?_
  refine AO.nil ?_
  refine AW.cond rfl (fun hb1 => ?_) (fun hb1 => ?_)
  · skip
    replace hb1 := of_decide_eq_true hb1
    refine AW.skip ?_
    refine AW.seq ?_
    refine AW.block ?_
    refine AW.seq ?_
    refine AW.region ?_
    refine AO.xs rfl rfl rfl (XS.move rfl) ?_
    refine AO.xs rfl rfl rfl (XS.lenR rfl (el rfl)) ?_
    refine AO.xs rfl rfl rfl (XS.move rfl) ?_
    refine AO.xs rfl rfl rfl (XS.mulN (m := 3) rfl rfl (by omega)) ?_
    refine AO.xs rfl rfl rfl (XS.subN rfl rfl (by omega)) ?_
    refine AO.xs rfl rfl rfl (XS.assign rfl) ?_
    refine AO.nil ?_
    refine AW.seq ?_
    refine AW.region ?_
    refine AO.xs rfl rfl rfl (XS.move rfl) ?_
    refine AO.xs rfl rfl rfl (XS.move rfl) ?_
    refine AO.xs rfl rfl rfl (XS.subN (n := 1) rfl rfl (by omega)) ?_
    refine AO.xs rfl rfl rfl (XS.move rfl) ?_
    refine AO.xs rfl rfl rfl (XS.move rfl) ?_
    refine AO.xs rfl rfl rfl (XS.indexL rfl rfl (el rfl) (by omega)) ?_
    refine AO.xs rfl rfl rfl (XS.loadE rfl (on rfl) rfl) ?_
    refine AO.xs rfl rfl rfl (XS.convU8 rfl (us rfl) (ik rfl)) ?_
    refine AO.xs rfl rfl rfl (XS.indexR1 rfl rfl (el rfl) (by omega)) ?_
    refine AO.storeG rfl rfl rfl (sz rfl) rfl (by skip; rw [List.length_reverse, fx_len]; omega) rfl rfl ?_
    refine AO.nil ?_
    refine AW.seq ?_
    refine AW.region ?_
    refine AO.xs rfl rfl rfl (XS.move rfl) ?_
    refine AO.xs rfl rfl rfl (XS.move rfl) ?_
    refine AO.xs rfl rfl rfl (XS.subN (n := 2) rfl rfl (by omega)) ?_
    refine AO.xs rfl rfl rfl (XS.move rfl) ?_
    refine AO.xs rfl rfl rfl (XS.move rfl) ?_
    refine AO.xs rfl rfl rfl (XS.indexL rfl rfl (el rfl) (by omega)) ?_
    refine AO.xs rfl rfl rfl (XS.loadE rfl (on rfl) rfl) ?_
    refine AO.xs rfl rfl rfl (XS.shrI (n := 8) rfl rfl (by omega)) ?_
    refine AO.xs rfl rfl rfl (XS.convU8 rfl (us rfl) (ik rfl)) ?_
    refine AO.xs rfl rfl rfl (XS.indexR1 rfl rfl (el rfl) (by omega)) ?_
    refine AO.storeG rfl rfl rfl (sz rfl) rfl (by rw [List.length_set]; rw [List.length_reverse, fx_len]; omega) rfl rfl ?_
    refine AO.nil ?_
    refine AW.region ?_
    refine AO.xs rfl rfl rfl (XS.move rfl) ?_
    refine AO.xs rfl rfl rfl (XS.move rfl) ?_
    refine AO.xs rfl rfl rfl (XS.subN (n := 3) rfl rfl (by omega)) ?_
    refine AO.xs rfl rfl rfl (XS.move rfl) ?_
    refine AO.xs rfl rfl rfl (XS.move rfl) ?_
    refine AO.xs rfl rfl rfl (XS.indexL rfl rfl (el rfl) (by omega)) ?_
    refine AO.xs rfl rfl rfl (XS.loadE rfl (on rfl) rfl) ?_
    refine AO.xs rfl rfl rfl (XS.shrI (n := 16) rfl rfl (by omega)) ?_
    refine AO.xs rfl rfl rfl (XS.convU8 rfl (us rfl) (ik rfl)) ?_
    refine AO.xs rfl rfl rfl (XS.indexR1 rfl rfl (el rfl) (by omega)) ?_
    refine AO.storeG rfl rfl rfl (sz rfl) rfl (by rw [List.length_set, List.length_set]; rw [List.length_reverse, fx_len]; omega) rfl rfl ?_
    refine AO.nil ?_
    refine AW.region ?_
    refine AO.xs rfl rfl rfl (XS.move rfl) ?_
    refine AO.xs rfl rfl rfl (XS.addN (n := 1) rfl rfl (by omega)) ?_
    refine AO.xs rfl rfl rfl (XS.assign rfl) ?_
    refine AO.nil ?_
    exact ⟨i + 1, (by omega), (by dsimp only; omega), ⟨rfl, trivial⟩, ⟨⟨_, rfl, rfl⟩, ⟨_, rfl, rfl⟩, ⟨_, rfl, rfl⟩, trivial⟩, (congrArg (fun z => [nkD .u8 z]) (out3 (by omega)))⟩
  · skip
    replace hb1 := of_decide_eq_false hb1
    obtain rfl : i = nl 16777216 n := by omega
    have hlt : n < 256 ^ (3 * nl 16777216 n - 0) := by have := lt_nl (b := 16777216) (by decide) n; rwa [show (16777216 : Nat) ^ nl 16777216 n = 256 ^ (3 * nl 16777216 n - 0) by rw [Nat.sub_zero, Nat.pow_mul]] at this
    have hmod : n % 16777216 ^ nl 16777216 n = n := Nat.mod_eq_of_lt (lt_nl (by decide) n)
    refine AW.setH (congrArg (fun z => [nkD .u8 (fx 256 (3 * nl 16777216 n) z).reverse]) hmod) ?_
    refine AW.exit ?_
    refine AW.seq ?_
    refine AW.freezeL 3 rfl (Nat.zero_le _) rfl (by rw [List.length_reverse, fx_len]) ?_
    refine AW.region ?_
    refine AO.xs rfl rfl rfl (XS.assign rfl) ?_
    refine AO.nil ?_
    refine AW.seq ?_
    refine AW.block ?_
    refine AW.loop [2, 3] (fun m => [(6, .d (intD ((m : Nat) : Int)))]) (fun _ => _) (fun m => m ≤ 3 * nl 16777216 n ∧ n < 256 ^ (3 * nl 16777216 n - m)) (fun m => 3 * nl 16777216 n - m) (0) ⟨Nat.zero_le _, hlt⟩ ⟨rfl, trivial⟩ ⟨⟨_, rfl, rfl⟩, ⟨_, rfl, rfl⟩, trivial⟩ rfl ?_
    intro m ⟨hm, hq⟩
    refine AW.seq ?_
    refine AW.seq ?_
    refine AW.region ?_
    refine AO.xs rfl rfl rfl (XS.move rfl) ?_
    refine AO.xs rfl rfl rfl (XS.move rfl) ?_
    refine AO.xs rfl rfl rfl ((XS.lenG rfl (el rfl) (by rw [List.length_reverse, fx_len]))) ?_
    refine AO.xs rfl rfl rfl (XS.int rfl rfl rfl) ?_
    refine AO.xs rfl rfl rfl (XS.move rfl) ?_
    refine AO.split 55 rfl (fun hg2 => ?_) (fun hg2 => ?_)
    · skip
      have hg2n := of_decide_eq_true hg2
      refine AO.gyes rfl rfl rfl rfl rfl rfl hg2 rfl (XS.move rfl) ?_
      refine AO.gyes rfl rfl rfl rfl rfl rfl hg2 rfl (XS.move rfl) ?_
      refine AO.gyes rfl rfl rfl rfl rfl rfl hg2 rfl ((XS.indexG rfl rfl (el rfl) (rev_get (by omega)))) ?_
      refine AO.gyes rfl rfl rfl rfl rfl rfl hg2 rfl (XS.loadE rfl (on rfl) rfl) ?_
      refine AO.gyes rfl rfl rfl rfl rfl rfl hg2 rfl (XS.int rfl rfl rfl) ?_
      refine AO.xs rfl rfl rfl (XS.pickT rfl rfl hg2) ?_
      refine AO.nil ?_
      refine AW.cond rfl (fun hb3 => ?_) (fun hb3 => ?_)
      · skip
        replace hb3 := eq_of_beq hb3
        refine AW.skip ?_
        refine AW.block ?_
        refine AW.region ?_
        refine AO.xs rfl rfl rfl (XS.move rfl) ?_
        refine AO.xs rfl rfl rfl (XS.addN (n := 1) rfl rfl (by omega)) ?_
        refine AO.xs rfl rfl rfl (XS.assign rfl) ?_
        refine AO.nil ?_
        exact ⟨m + 1, ⟨by omega, bytes_next (by omega) hq (by omega)⟩, (by dsimp only; omega), ⟨rfl, trivial⟩, ⟨⟨_, rfl, rfl⟩, ⟨_, rfl, rfl⟩, trivial⟩, rfl⟩
      · skip
        replace hb3 := ne_of_beq_false hb3
        refine AW.exit ?_
        refine AW.seq ?_
        refine AW.region ?_
        refine AO.xs rfl rfl rfl (XS.move rfl) ?_
        refine AO.xs rfl rfl rfl (XS.move rfl) ?_
        refine AO.xs rfl rfl rfl (XS.tailL rfl rfl (el rfl) (by rw [List.length_reverse, fx_len]; omega)) ?_
        refine AO.xs rfl rfl rfl (XS.strOf rfl (sb rfl)) ?_
        refine AO.xs rfl rfl rfl (XS.assign rfl) ?_
        refine AO.nil ?_
        refine AW.ret ?_
        exact ⟨_, rfl, congrArg strD (by rw [drop_rev hm, bytes_done hm hq (fun _ => by omega)]; rfl)⟩
    · skip
      have hg2n := of_decide_eq_false hg2
      refine AO.gno rfl rfl rfl rfl rfl rfl hg2 (by decide) rfl ?_
      refine AO.gno rfl rfl rfl rfl rfl rfl hg2 (by decide) rfl ?_
      refine AO.gno rfl rfl rfl rfl rfl rfl hg2 (by decide) rfl ?_
      refine AO.gno rfl rfl rfl rfl rfl rfl hg2 (by decide) rfl ?_
      refine AO.gno rfl rfl rfl rfl rfl rfl hg2 (by decide) rfl ?_
      refine AO.xs rfl rfl rfl (XS.pickF rfl rfl hg2) ?_
      refine AO.nil ?_
      refine AW.condF rfl rfl ?_
      refine AW.exit ?_
      refine AW.seq ?_
      refine AW.region ?_
      refine AO.xs rfl rfl rfl (XS.move rfl) ?_
      refine AO.xs rfl rfl rfl (XS.move rfl) ?_
      refine AO.xs rfl rfl rfl (XS.tailL rfl rfl (el rfl) (by rw [List.length_reverse, fx_len]; omega)) ?_
      refine AO.xs rfl rfl rfl (XS.strOf rfl (sb rfl)) ?_
      refine AO.xs rfl rfl rfl (XS.assign rfl) ?_
      refine AO.nil ?_
      refine AW.ret ?_
      exact ⟨_, rfl, congrArg strD (by rw [drop_rev hm, bytes_done hm hq (fun _ => by omega)]; rfl)⟩

set_option maxRecDepth 100000 in
theorem l02Add_ge {a b : Nat} (ha : nl 16777216 a ≤ 1048576) (hb : nl 16777216 b ≤ 1048576) (h : nl 16777216 b ≤ nl 16777216 a) : AC Try.prog 121 [limD a, limD b] (fun d => d = limD (a + b)) := by
  refine AC.intro Try.func121 Try.ntmps121 Try.results121 rfl (by simp) (fun w0 T => ?_)
  refine AW.seq ?_
  refine AW.region ?_
  refine AO.xs rfl rfl rfl (XS.assign rfl) ?_
  refine AO.nil ?_
  refine AW.seq ?_
  refine AW.seq ?_
  refine AW.region ?_
  refine AO.xs rfl rfl rfl (XS.move rfl) ?_
  refine AO.xs rfl rfl rfl (XS.lenL rfl (el rfl)) ?_
  refine AO.xs rfl rfl rfl (XS.move rfl) ?_
  refine AO.xs rfl rfl rfl (XS.lenL rfl (el rfl)) ?_
  refine AO.xs rfl rfl rfl (XS.int rfl rfl rfl) ?_
  refine AO.nil ?_
  refine AW.cond rfl (fun hb1 => ?_) (fun hb1 => ?_)
  · skip
    replace hb1 := of_decide_eq_true hb1
    exfalso; omega
  · skip
    replace hb1 := of_decide_eq_false hb1
    refine AW.skip ?_
    refine AW.seq ?_
    refine AW.region ?_
    refine AO.xs rfl rfl rfl (XS.move rfl) ?_
    refine AO.xs rfl rfl rfl (XS.lenL rfl (el rfl)) ?_
    refine AO.xs rfl rfl rfl (XS.addN (n := 1) rfl rfl (by omega)) ?_
    refine AO.makeC (16777216) (l' := 0) rfl rfl rfl rfl (ap rfl) (by omega) (by omega) ?_
    refine AO.xs rfl rfl rfl (XS.assign rfl) ?_
    refine AO.nil ?_
    refine AW.seq ?_
    refine AW.region ?_
    refine AO.xs rfl rfl rfl (XS.assign rfl) ?_
    refine AO.nil ?_
    refine AW.seq ?_
    refine AW.seq ?_
    refine AW.region ?_
    refine AO.xs rfl rfl rfl (XS.assign rfl) ?_
    refine AO.nil ?_
    refine AW.block ?_
    refine AW.loop [0, 1, 4] (fun i => [(5, .r 0 i 1), (6, .d (intD ((carry 16777216 a b i : Nat) : Int))), (7, .d (intD ((i : Nat) : Int)))]) (fun i => [nkD .i64 (fx 16777216 i (a + b))]) (fun i => i ≤ nl 16777216 a) (fun i => nl 16777216 a - i) (0) (Nat.zero_le _) ⟨rfl, lk_D rfl (by rw [carry_zero]; rfl), rfl, trivial⟩ ⟨⟨_, rfl, rfl⟩, ⟨_, rfl, rfl⟩, ⟨_, rfl, rfl⟩, trivial⟩ rfl ?_
    intro i hi
    refine AW.seq ?_
    refine AW.seq ?_
    refine AW.region ?_
    refine AO.xs rfl rfl rfl (XS.move rfl) ?_
    refine AO.xs rfl rfl rfl (XS.move rfl) ?_
    refine AO.xs rfl rfl rfl (XS.lenL rfl (el rfl)) ?_
    refine AO.xs rfl rfl rfl (XS.int rfl rfl rfl) ?_
    refine AO.nil ?_
    refine AW.cond rfl (fun hb2 => ?_) (fun hb2 => ?_)
    · skip
      replace hb2 := of_decide_eq_true hb2
      have kc := carry_le (b := 16777216) (m := a) (n := b) (i := i) (by decide)
      refine AW.skip ?_
      refine AW.seq ?_
      refine AW.block ?_
      refine AW.seq ?_
      refine AW.region ?_
      refine AO.xs rfl rfl rfl (XS.move rfl) ?_
      refine AO.xs rfl rfl rfl (XS.move rfl) ?_
      refine AO.xs rfl rfl rfl (XS.indexL rfl rfl (el rfl) (by omega)) ?_
      refine AO.xs rfl rfl rfl (XS.loadE rfl (on rfl) rfl) ?_
      refine AO.xs rfl rfl rfl (XS.move rfl) ?_
      refine AO.xs rfl rfl rfl (XS.addN rfl rfl (by omega)) ?_
      refine AO.xs rfl rfl rfl (XS.assign rfl) ?_
      refine AO.nil ?_
      refine AW.cutS [0, 1, 4, 5, 6, 7, 21, 22, 23, 24, 27, 28, 29, 30, 31, 32] (fun (_ : Unit) => [(8, .d (intD ((a / 16777216 ^ i % 16777216 + carry 16777216 a b i + b / 16777216 ^ i % 16777216 : Nat) : Int)))]) (fun _ => True) ?_ ?_
      · skip
        refine AW.seq ?_
        refine AW.region ?_
        refine AO.xs rfl rfl rfl (XS.move rfl) ?_
        refine AO.xs rfl rfl rfl (XS.move rfl) ?_
        refine AO.xs rfl rfl rfl (XS.lenL rfl (el rfl)) ?_
        refine AO.xs rfl rfl rfl (XS.int rfl rfl rfl) ?_
        refine AO.nil ?_
        refine AW.cond rfl (fun hb3 => ?_) (fun hb3 => ?_)
        · skip
          replace hb3 := of_decide_eq_true hb3
          refine AW.region ?_
          refine AO.xs rfl rfl rfl (XS.move rfl) ?_
          refine AO.xs rfl rfl rfl (XS.move rfl) ?_
          refine AO.xs rfl rfl rfl (XS.move rfl) ?_
          refine AO.xs rfl rfl rfl (XS.indexL rfl rfl (el rfl) (by omega)) ?_
          refine AO.xs rfl rfl rfl (XS.loadE rfl (on rfl) rfl) ?_
          refine AO.xs rfl rfl rfl (XS.addN rfl rfl (by omega)) ?_
          refine AO.xs rfl rfl rfl (XS.assign rfl) ?_
          refine AO.nil ?_
          exact ⟨(), trivial, ⟨rfl, trivial⟩, ⟨⟨_, rfl, rfl⟩, ⟨_, rfl, rfl⟩, ⟨_, rfl, rfl⟩, ⟨_, rfl, rfl⟩, ⟨_, rfl, rfl⟩, ⟨_, rfl, rfl⟩, ⟨_, rfl, rfl⟩, ⟨_, rfl, rfl⟩, ⟨_, rfl, rfl⟩, ⟨_, rfl, rfl⟩, ⟨_, rfl, rfl⟩, ⟨_, rfl, rfl⟩, ⟨_, rfl, rfl⟩, ⟨_, rfl, rfl⟩, ⟨_, rfl, rfl⟩, ⟨_, rfl, rfl⟩, trivial⟩, rfl⟩
        · skip
          replace hb3 := of_decide_eq_false hb3
          refine AW.skip ?_
          exact ⟨(), trivial, ⟨lk_D rfl (intEq (by rw [digit_out (n := b) (by decide) (by omega)]; rfl)), trivial⟩, ⟨⟨_, rfl, rfl⟩, ⟨_, rfl, rfl⟩, ⟨_, rfl, rfl⟩, ⟨_, rfl, rfl⟩, ⟨_, rfl, rfl⟩, ⟨_, rfl, rfl⟩, ⟨_, rfl, rfl⟩, ⟨_, rfl, rfl⟩, ⟨_, rfl, rfl⟩, ⟨_, rfl, rfl⟩, ⟨_, rfl, rfl⟩, ⟨_, rfl, rfl⟩, ⟨_, rfl, rfl⟩, ⟨_, rfl, rfl⟩, ⟨_, rfl, rfl⟩, ⟨_, rfl, rfl⟩, trivial⟩, rfl⟩
      · skip
        intro _ _
        refine AW.seq ?_
        refine AW.region ?_
        refine AO.xs rfl rfl rfl (XS.move rfl) ?_
        refine AO.xs rfl rfl rfl (XS.move rfl) ?_
        refine AO.xs rfl rfl rfl (XS.maskN rfl rfl) ?_
        refine AO.xs rfl rfl rfl (XS.buildSlice (ap rfl) rfl rfl rfl (by decide)) ?_
        refine AO.appendL rfl rfl rfl rfl (ap rfl) (el rfl) (Nat.zero_le _) rfl (fx_len _ _ _) (by omega) (by simp only [maxLen]; omega) rfl ?_
        refine AO.xs rfl rfl rfl (XS.assign rfl) ?_
        refine AO.nil ?_
        refine AW.region ?_
        refine AO.xs rfl rfl rfl (XS.move rfl) ?_
        refine AO.xs rfl rfl rfl (XS.shrI (n := 24) rfl rfl (by omega)) ?_
        refine AO.xs rfl rfl rfl (XS.assign rfl) ?_
        refine AO.nil ?_
        refine AW.region ?_
        refine AO.xs rfl rfl rfl (XS.move rfl) ?_
        refine AO.xs rfl rfl rfl (XS.addN (n := 1) rfl rfl (by omega)) ?_
        refine AO.xs rfl rfl rfl (XS.assign rfl) ?_
        refine AO.nil ?_
        exact ⟨i + 1, (by omega), (by dsimp only; omega), ⟨rfl, lk_D rfl (intEq (by rw [← plus_carry (by decide)]; congr 2; omega)), rfl, trivial⟩, ⟨⟨_, rfl, rfl⟩, ⟨_, rfl, rfl⟩, ⟨_, rfl, rfl⟩, trivial⟩, (congrArg (fun z => [nkD .i64 z]) (add_snoc (by decide)))⟩
    · skip
      replace hb2 := of_decide_eq_false hb2
      obtain rfl : i = nl 16777216 a := by omega
      refine AW.exit ?_
      refine AW.seq ?_
      refine AW.seq ?_
      refine AW.region ?_
      refine AO.xs rfl rfl rfl (XS.move rfl) ?_
      refine AO.xs rfl rfl rfl (XS.int rfl rfl rfl) ?_
      refine AO.nil ?_
      refine AW.cond rfl (fun hb4 => ?_) (fun hb4 => ?_)
      · skip
        replace hb4 := of_decide_eq_true hb4
        refine AW.region ?_
        refine AO.xs rfl rfl rfl (XS.move rfl) ?_
        refine AO.xs rfl rfl rfl (XS.move rfl) ?_
        refine AO.xs rfl rfl rfl (XS.buildSlice (ap rfl) rfl rfl rfl (by decide)) ?_
        refine AO.appendL rfl rfl rfl rfl (ap rfl) (el rfl) (Nat.zero_le _) rfl (fx_len _ _ _) (by omega) (by simp only [maxLen]; omega) rfl ?_
        refine AO.xs rfl rfl rfl (XS.assign rfl) ?_
        refine AO.nil ?_
        refine AW.seq ?_
        refine AW.region ?_
        refine AO.xs rfl rfl rfl (XS.move rfl) ?_
        refine AO.freezeL 56 rfl (Nat.zero_le _) rfl (by simp [fx_len]) ?_
        refine AO.xs rfl rfl rfl (XS.assign rfl) ?_
        refine AO.nil ?_
        refine AW.ret ?_
        refine ⟨_, rfl, ?_⟩
        exact congrArg (limbsD .i64) (sum_carry (by decide) rfl (by omega) (by omega))
      · skip
        replace hb4 := of_decide_eq_false hb4
        refine AW.skip ?_
        refine AW.seq ?_
        refine AW.region ?_
        refine AO.xs rfl rfl rfl (XS.move rfl) ?_
        refine AO.freezeL 56 rfl (Nat.zero_le _) rfl (by simp [fx_len]) ?_
        refine AO.xs rfl rfl rfl (XS.assign rfl) ?_
        refine AO.nil ?_
        refine AW.ret ?_
        refine ⟨_, rfl, ?_⟩
        exact congrArg (limbsD .i64) (sum_none (by decide) rfl (by omega) (by omega))

set_option maxRecDepth 100000 in
theorem l02Add_lt {a b : Nat} (ha : nl 16777216 a ≤ 1048576) (hb : nl 16777216 b ≤ 1048576) (h : nl 16777216 a < nl 16777216 b) : AC Try.prog 121 [limD a, limD b] (fun d => d = limD (a + b)) := by
  refine AC.intro Try.func121 Try.ntmps121 Try.results121 rfl (by simp) (fun w0 T => ?_)
  refine AW.seq ?_
  refine AW.region ?_
  refine AO.xs rfl rfl rfl (XS.assign rfl) ?_
  refine AO.nil ?_
  refine AW.seq ?_
  refine AW.seq ?_
  refine AW.region ?_
  refine AO.xs rfl rfl rfl (XS.move rfl) ?_
  refine AO.xs rfl rfl rfl (XS.lenL rfl (el rfl)) ?_
  refine AO.xs rfl rfl rfl (XS.move rfl) ?_
  refine AO.xs rfl rfl rfl (XS.lenL rfl (el rfl)) ?_
  refine AO.xs rfl rfl rfl (XS.int rfl rfl rfl) ?_
  refine AO.nil ?_
  refine AW.cond rfl (fun hb1 => ?_) (fun hb1 => ?_)
  · skip
    replace hb1 := of_decide_eq_true hb1
    refine AW.seq ?_
    refine AW.region ?_
    refine AO.xs rfl rfl rfl (XS.move rfl) ?_
    refine AO.xs rfl rfl rfl (XS.move rfl) ?_
    refine AO.xs rfl rfl rfl (XS.call rfl (by kernel_rfl) rfl (l02Add_ge hb ha (by omega))) ?_
    refine AO.xs rfl rfl rfl (XS.assign rfl) ?_
    refine AO.nil ?_
    refine AW.ret ?_
    exact ⟨_, rfl, congrArg limD (Nat.add_comm _ _)⟩
  · skip
    replace hb1 := of_decide_eq_false hb1
    exfalso; omega


theorem l02Add_c {a b : Nat} (ha : nl 16777216 a ≤ 1048576) (hb : nl 16777216 b ≤ 1048576) : AC Try.prog 121 [limD a, limD b] (fun d => d = limD (a + b)) := by
  rcases Nat.lt_or_ge (nl 16777216 a) (nl 16777216 b) with h | h
  · exact l02Add_lt ha hb h
  · exact l02Add_ge ha hb h


theorem sub_b1 {b m n i : Nat} (h : ((m / b ^ i % b : Nat) : Int) - ((bor b m n i : Nat) : Int) - ((n / b ^ i % b : Nat) : Int) < 0) (hb : 0 < b) : (1 : Int) = ((bor b m n (i + 1) : Nat) : Int) := by rw [← less_bor hb, if_pos (by omega)]; rfl
theorem sub_b0 {b m n i : Nat} (h : ¬ ((m / b ^ i % b : Nat) : Int) - ((bor b m n i : Nat) : Int) - ((n / b ^ i % b : Nat) : Int) < 0) (hb : 0 < b) : (0 : Int) = ((bor b m n (i + 1) : Nat) : Int) := by rw [← less_bor hb, if_neg (by omega)]; rfl
theorem sub_d1 {m n i : Nat} (h : ((m / 16777216 ^ i % 16777216 : Nat) : Int) - ((bor 16777216 m n i : Nat) : Int) - ((n / 16777216 ^ i % 16777216 : Nat) : Int) < 0) (h2 : n ≤ m) : ((m / 16777216 ^ i % 16777216 : Nat) : Int) - ((bor 16777216 m n i : Nat) : Int) - ((n / 16777216 ^ i % 16777216 : Nat) : Int) + 16777216 = (((m - n) / 16777216 ^ i % 16777216 : Nat) : Int) := by
  have := bor_le (b := 16777216) (m := m) (n := n) (i := i)
  rw [sub_digit (by decide) h2, Nat.mod_eq_of_lt (a := m / 16777216 ^ i % 16777216 + 16777216 - n / 16777216 ^ i % 16777216 - bor 16777216 m n i) (by omega)]; omega
theorem sub_d0 {m n i : Nat} (h : ¬ ((m / 16777216 ^ i % 16777216 : Nat) : Int) - ((bor 16777216 m n i : Nat) : Int) - ((n / 16777216 ^ i % 16777216 : Nat) : Int) < 0) (h2 : n ≤ m) : ((m / 16777216 ^ i % 16777216 : Nat) : Int) - ((bor 16777216 m n i : Nat) : Int) - ((n / 16777216 ^ i % 16777216 : Nat) : Int) = (((m - n) / 16777216 ^ i % 16777216 : Nat) : Int) := by
  rw [sub_digit (by decide) h2]
  have hx := Nat.mod_lt (m / 16777216 ^ i) (show 0 < 16777216 by decide)
  generalize m / 16777216 ^ i % 16777216 = x at *
  generalize n / 16777216 ^ i % 16777216 = y at *
  generalize bor 16777216 m n i = c at *
  rw [show x + 16777216 - y - c = (x - y - c) + 16777216 by omega, Nat.add_mod_right, Nat.mod_eq_of_lt (by omega)]; omega

set_option maxRecDepth 100000 in
theorem l02Sub_c {a b : Nat} (ha : nl 16777216 a ≤ 1048576) (hb : nl 16777216 b ≤ 1048576) (h : b ≤ a) : AC Try.prog 100 [limD a, limD b] (fun d => d = limD (a - b)) := by
  refine AC.intro Try.func100 Try.ntmps100 Try.results100 rfl (by simp) (fun w0 T => ?_)
  refine AW.seq ?_
  refine AW.region ?_
  refine AO.xs rfl rfl rfl (XS.assign rfl) ?_
  refine AO.nil ?_
  refine AW.seq ?_
  refine AW.region ?_
  refine AO.xs rfl rfl rfl (XS.move rfl) ?_
  refine AO.xs rfl rfl rfl (XS.lenL rfl (el rfl)) ?_
  refine AO.makeC (16777216) (l' := 0) rfl rfl rfl rfl (ap rfl) (by omega) (by omega) ?_
  refine AO.xs rfl rfl rfl (XS.assign rfl) ?_
  refine AO.nil ?_
  refine AW.seq ?_
  refine AW.region ?_
  refine AO.xs rfl rfl rfl (XS.assign rfl) ?_
  refine AO.nil ?_
  refine AW.seq ?_
  refine AW.seq ?_
  refine AW.region ?_
  refine AO.xs rfl rfl rfl (XS.assign rfl) ?_
  refine AO.nil ?_
  refine AW.block ?_
  refine AW.loop [0, 1, 4] (fun i => [(5, .r 0 i 1), (6, .d (intD ((bor 16777216 a b i : Nat) : Int))), (7, .d (intD ((i : Nat) : Int)))]) (fun i => [nkD .i64 (fx 16777216 i (a - b))]) (fun i => i ≤ nl 16777216 a) (fun i => nl 16777216 a - i) (0) (Nat.zero_le _) ⟨rfl, lk_D rfl (by rw [bor_zero]; rfl), rfl, trivial⟩ ⟨⟨_, rfl, rfl⟩, ⟨_, rfl, rfl⟩, ⟨_, rfl, rfl⟩, trivial⟩ rfl ?_
  intro i hi
  refine AW.seq ?_
  refine AW.seq ?_
  refine AW.region ?_
  refine AO.xs rfl rfl rfl (XS.move rfl) ?_
  refine AO.xs rfl rfl rfl (XS.move rfl) ?_
  refine AO.xs rfl rfl rfl (XS.lenL rfl (el rfl)) ?_
  refine AO.xs rfl rfl rfl (XS.int rfl rfl rfl) ?_
  refine AO.nil ?_
  refine AW.cond rfl (fun hb1 => ?_) (fun hb1 => ?_)
  · skip
    replace hb1 := of_decide_eq_true hb1
    have kb := bor_le (b := 16777216) (m := a) (n := b) (i := i)
    refine AW.skip ?_
    refine AW.seq ?_
    refine AW.block ?_
    refine AW.seq ?_
    refine AW.region ?_
    refine AO.xs rfl rfl rfl (XS.move rfl) ?_
    refine AO.xs rfl rfl rfl (XS.move rfl) ?_
    refine AO.xs rfl rfl rfl (XS.indexL rfl rfl (el rfl) (by omega)) ?_
    refine AO.xs rfl rfl rfl (XS.loadE rfl (on rfl) rfl) ?_
    refine AO.xs rfl rfl rfl (XS.move rfl) ?_
    refine AO.xs rfl rfl rfl (XS.subI rfl rfl (by omega)) ?_
    refine AO.xs rfl rfl rfl (XS.assign rfl) ?_
    refine AO.nil ?_
    refine AW.cutS [0, 1, 4, 5, 6, 7, 12, 13, 14, 15, 18, 19, 20, 21, 22, 23] (fun (_ : Unit) => [(8, .d (intD (((a / 16777216 ^ i % 16777216 : Nat) : Int) - ((bor 16777216 a b i : Nat) : Int) - ((b / 16777216 ^ i % 16777216 : Nat) : Int))))]) (fun _ => True) ?_ ?_
    · skip
      refine AW.seq ?_
      refine AW.region ?_
      refine AO.xs rfl rfl rfl (XS.move rfl) ?_
      refine AO.xs rfl rfl rfl (XS.move rfl) ?_
      refine AO.xs rfl rfl rfl (XS.lenL rfl (el rfl)) ?_
      refine AO.xs rfl rfl rfl (XS.int rfl rfl rfl) ?_
      refine AO.nil ?_
      refine AW.cond rfl (fun hb2 => ?_) (fun hb2 => ?_)
      · skip
        replace hb2 := of_decide_eq_true hb2
        refine AW.region ?_
        refine AO.xs rfl rfl rfl (XS.move rfl) ?_
        refine AO.xs rfl rfl rfl (XS.move rfl) ?_
        refine AO.xs rfl rfl rfl (XS.move rfl) ?_
        refine AO.xs rfl rfl rfl (XS.indexL rfl rfl (el rfl) (by omega)) ?_
        refine AO.xs rfl rfl rfl (XS.loadE rfl (on rfl) rfl) ?_
        refine AO.xs rfl rfl rfl (XS.subI rfl rfl (by omega)) ?_
        refine AO.xs rfl rfl rfl (XS.assign rfl) ?_
        refine AO.nil ?_
        exact ⟨(), trivial, ⟨rfl, trivial⟩, ⟨⟨_, rfl, rfl⟩, ⟨_, rfl, rfl⟩, ⟨_, rfl, rfl⟩, ⟨_, rfl, rfl⟩, ⟨_, rfl, rfl⟩, ⟨_, rfl, rfl⟩, ⟨_, rfl, rfl⟩, ⟨_, rfl, rfl⟩, ⟨_, rfl, rfl⟩, ⟨_, rfl, rfl⟩, ⟨_, rfl, rfl⟩, ⟨_, rfl, rfl⟩, ⟨_, rfl, rfl⟩, ⟨_, rfl, rfl⟩, ⟨_, rfl, rfl⟩, ⟨_, rfl, rfl⟩, trivial⟩, rfl⟩
      · skip
        replace hb2 := of_decide_eq_false hb2
        refine AW.skip ?_
        exact ⟨(), trivial, ⟨lk_D rfl (intEq (by rw [digit_out (n := b) (by decide) (by omega)]; simp)), trivial⟩, ⟨⟨_, rfl, rfl⟩, ⟨_, rfl, rfl⟩, ⟨_, rfl, rfl⟩, ⟨_, rfl, rfl⟩, ⟨_, rfl, rfl⟩, ⟨_, rfl, rfl⟩, ⟨_, rfl, rfl⟩, ⟨_, rfl, rfl⟩, ⟨_, rfl, rfl⟩, ⟨_, rfl, rfl⟩, ⟨_, rfl, rfl⟩, ⟨_, rfl, rfl⟩, ⟨_, rfl, rfl⟩, ⟨_, rfl, rfl⟩, ⟨_, rfl, rfl⟩, ⟨_, rfl, rfl⟩, trivial⟩, rfl⟩
    · skip
      intro _ _
      refine AW.seq ?_
      refine AW.region ?_
      refine AO.xs rfl rfl rfl (XS.assign rfl) ?_
      refine AO.nil ?_
      refine AW.cutS [0, 1, 4, 5, 7, 12, 13, 14, 15, 18, 19, 20, 21, 22, 23] (fun (_ : Unit) => [(6, .d (intD ((bor 16777216 a b (i + 1) : Nat) : Int))), (8, .d (intD (((a - b) / 16777216 ^ i % 16777216 : Nat) : Int)))]) (fun _ => True) ?_ ?_
      · skip
        refine AW.seq ?_
        refine AW.region ?_
        refine AO.xs rfl rfl rfl (XS.move rfl) ?_
        refine AO.xs rfl rfl rfl (XS.int rfl rfl rfl) ?_
        refine AO.nil ?_
        refine AW.cond rfl (fun hb3 => ?_) (fun hb3 => ?_)
        · skip
          replace hb3 := of_decide_eq_true hb3
          refine AW.seq ?_
          refine AW.region ?_
          refine AO.xs rfl rfl rfl (XS.move rfl) ?_
          refine AO.xs rfl rfl rfl (XS.addI rfl rfl (by omega)) ?_
          refine AO.xs rfl rfl rfl (XS.assign rfl) ?_
          refine AO.nil ?_
          refine AW.region ?_
          refine AO.xs rfl rfl rfl (XS.assign rfl) ?_
          refine AO.nil ?_
          exact ⟨(), trivial, ⟨lk_D rfl (intEq (sub_b1 (by omega) (by decide))), lk_D rfl (intEq (sub_d1 (by omega) h)), trivial⟩, ⟨⟨_, rfl, rfl⟩, ⟨_, rfl, rfl⟩, ⟨_, rfl, rfl⟩, ⟨_, rfl, rfl⟩, ⟨_, rfl, rfl⟩, ⟨_, rfl, rfl⟩, ⟨_, rfl, rfl⟩, ⟨_, rfl, rfl⟩, ⟨_, rfl, rfl⟩, ⟨_, rfl, rfl⟩, ⟨_, rfl, rfl⟩, ⟨_, rfl, rfl⟩, ⟨_, rfl, rfl⟩, ⟨_, rfl, rfl⟩, ⟨_, rfl, rfl⟩, trivial⟩, rfl⟩
        · skip
          replace hb3 := of_decide_eq_false hb3
          refine AW.skip ?_
          exact ⟨(), trivial, ⟨lk_D rfl (intEq (sub_b0 (by omega) (by decide))), lk_D rfl (intEq (sub_d0 (by omega) h)), trivial⟩, ⟨⟨_, rfl, rfl⟩, ⟨_, rfl, rfl⟩, ⟨_, rfl, rfl⟩, ⟨_, rfl, rfl⟩, ⟨_, rfl, rfl⟩, ⟨_, rfl, rfl⟩, ⟨_, rfl, rfl⟩, ⟨_, rfl, rfl⟩, ⟨_, rfl, rfl⟩, ⟨_, rfl, rfl⟩, ⟨_, rfl, rfl⟩, ⟨_, rfl, rfl⟩, ⟨_, rfl, rfl⟩, ⟨_, rfl, rfl⟩, ⟨_, rfl, rfl⟩, trivial⟩, rfl⟩
      · skip
        intro _ _
        refine AW.region ?_
        refine AO.xs rfl rfl rfl (XS.move rfl) ?_
        refine AO.xs rfl rfl rfl (XS.move rfl) ?_
        refine AO.xs rfl rfl rfl (XS.buildSlice (ap rfl) rfl rfl rfl (by decide)) ?_
        refine AO.appendL rfl rfl rfl rfl (ap rfl) (el rfl) (Nat.zero_le _) rfl (fx_len _ _ _) (by omega) (by simp only [maxLen]; omega) rfl ?_
        refine AO.xs rfl rfl rfl (XS.assign rfl) ?_
        refine AO.nil ?_
        refine AW.region ?_
        refine AO.xs rfl rfl rfl (XS.move rfl) ?_
        refine AO.xs rfl rfl rfl (XS.addN (n := 1) rfl rfl (by omega)) ?_
        refine AO.xs rfl rfl rfl (XS.assign rfl) ?_
        refine AO.nil ?_
        exact ⟨i + 1, (by omega), (by dsimp only; omega), ⟨rfl, rfl, rfl, trivial⟩, ⟨⟨_, rfl, rfl⟩, ⟨_, rfl, rfl⟩, ⟨_, rfl, rfl⟩, trivial⟩, (congrArg (fun z => [nkD .i64 z]) fx_snoc.symm)⟩
  · skip
    replace hb1 := of_decide_eq_false hb1
    obtain rfl : i = nl 16777216 a := by omega
    refine AW.exit ?_
    refine AW.seq ?_
    refine AW.region ?_
    refine AO.xs rfl rfl rfl (XS.move rfl) ?_
    refine AO.freezeL 42 rfl (Nat.zero_le _) rfl (fx_len _ _ _).symm ?_
    refine AO.xs rfl rfl rfl (XS.call rfl (by kernel_rfl) rfl (l02Trim_c (by omega) (Nat.lt_of_le_of_lt (Nat.sub_le _ _) (lt_nl (by decide) a)))) ?_
    refine AO.xs rfl rfl rfl (XS.assign rfl) ?_
    refine AO.nil ?_
    refine AW.ret ?_
    exact ⟨_, rfl, rfl⟩

end Go.Proofs.Ytgafdhpagifpcaa.C
