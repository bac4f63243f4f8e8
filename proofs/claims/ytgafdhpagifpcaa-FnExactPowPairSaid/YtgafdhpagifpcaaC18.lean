/-
  OWN WORK, printed by wip/tools/gen.py out of the translation and of the contracts in wip/specs.
-/
import Derived.Test.YtgafdhpagifpcaaC15
import Derived.Test.YtgafdhpagifpcaaN8
import Derived.Test.YtgafdhpagifpcaaAvC
import Derived.Test.YtgafdhpagifpcaaAvD
namespace Go.Proofs.Ytgafdhpagifpcaa.C
open Go Go.RowKit Go.Proofs.Ytgafdhpagifpcaa.Av Go.Proofs.Ytgafdhpagifpcaa.Ty Go.Proofs.Ytgafdhpagifpcaa.Num
set_option linter.unusedVariables false


theorem yy (Y : Nat) : Y / 4294967296 * 4294967296 + Y % 4294967296 = Y := Nat.div_add_mod' Y _
theorem word_lt {x y v : Nat} (hx : x < v) (hy : y < 18446744073709551616) : (x * 18446744073709551616 + y) / v < 18446744073709551616 := by
  rw [Nat.div_lt_iff_lt_mul (by omega)]; omega
theorem half_lt {q : Nat} (h : q < 4294967296) : q * 4294967296 < 18446744073709551616 := by omega
theorem dgt_two_lt {b N z v w Y : Nat} (hb : 0 < b) (hY : v * b + w = Y) (hN : N < Y) (hz : z < b) : (N * b + z) / Y < b := by
  rw [← dgt_two hb hY hN hz]; exact dgt_less hb
theorem step_qr {q v r N : Nat} (h : q * v + r = N) (hq : 0 < q) : (q - 1) * v + (r + v) = N := by
  obtain ⟨p, rfl⟩ : ∃ p, q = p + 1 := ⟨q - 1, by omega⟩
  rw [Nat.succ_mul] at h
  rw [Nat.add_sub_cancel]; omega

set_option maxRecDepth 100000 in
theorem div64_c {x y v : Nat} (hx : x < v) (hy : y < 18446744073709551616) (hv : v < 18446744073709551616) : AC Try.prog 168 [.im (.int .u64 (x : Int)), .im (.int .u64 (y : Int)), .im (.int .u64 (v : Int))] (fun d => d = .tu [.im (.int .u64 (((x * 18446744073709551616 + y) / v : Nat) : Int)), .im (.int .u64 (((x * 18446744073709551616 + y) % v : Nat) : Int))]) := by
  refine AC.intro Try.func168 Try.ntmps168 Try.results168 rfl (by simp) (fun w0 T => ?_)
  obtain ⟨s, hs⟩ : ∃ s, s = 64 - nl 2 v := ⟨_, rfl⟩
  obtain ⟨X, Y, Z, k1, k2, k3, k4, k5, k6, k7, k8, k9, k10⟩ := div64_setup hx hy hv hs
  obtain ⟨R, hR⟩ : ∃ R, R = (X * 4294967296 + Z / 4294967296) % Y := ⟨_, rfl⟩
  have hRY : R < Y := by rw [hR]; exact Nat.mod_lt _ (by omega)
  have m1 : X / (Y / 4294967296) * (Y / 4294967296) ≤ X := Nat.div_mul_le_self _ _
  have r1 : X - X / (Y / 4294967296) * (Y / 4294967296) = X % (Y / 4294967296) := by rw [Nat.mul_comm]; exact (Nat.mod_eq_sub_mul_div ..).symm
  have m2 : R / (Y / 4294967296) * (Y / 4294967296) ≤ R := Nat.div_mul_le_self _ _
  have r2 : R - R / (Y / 4294967296) * (Y / 4294967296) = R % (Y / 4294967296) := by rw [Nat.mul_comm]; exact (Nat.mod_eq_sub_mul_div ..).symm
  obtain ⟨e1, e2⟩ := div64_end (by omega) k4 k5
  rw [← hR] at e1 e2
  have q1c : (X * 4294967296 + Z / 4294967296) / Y < 4294967296 := dgt_two_lt (b := 4294967296) (N := X) (z := Z / 4294967296) (v := Y / 4294967296) (w := Y % 4294967296) (Y := Y) (by decide) (yy Y) k6 (by omega)
  have qq : (x * 18446744073709551616 + y) / v < 18446744073709551616 := by rw [Nat.div_lt_iff_lt_mul (by omega)]; omega
  refine AW.seq ?_
  refine AW.region ?_
  refine AO.xs rfl rfl rfl (XS.assign rfl) ?_
  refine AO.xs rfl rfl rfl (XS.assign rfl) ?_
  refine AO.nil ?_
  refine AW.seq ?_
  refine AW.seq ?_
  refine AW.region ?_
  refine AO.xs rfl rfl rfl (XS.move rfl) ?_
  refine AO.xs rfl rfl rfl (XS.int rfl rfl rfl) ?_
  refine AO.nil ?_
  refine AW.cond rfl (fun hb1 => ?_) (fun hb1 => ?_)
  · skip
    replace hb1 := eq_of_beq hb1
    exact absurd hb1 (by omega)
  · skip
    replace hb1 := ne_of_beq_false hb1
    refine AW.skip ?_
    refine AW.seq ?_
    refine AW.seq ?_
    refine AW.region ?_
    refine AO.xs rfl rfl rfl (XS.move rfl) ?_
    refine AO.xs rfl rfl rfl (XS.move rfl) ?_
    refine AO.xs rfl rfl rfl (XS.int rfl rfl rfl) ?_
    refine AO.nil ?_
    refine AW.cond rfl (fun hb2 => ?_) (fun hb2 => ?_)
    · skip
      replace hb2 := of_decide_eq_true hb2
      exact absurd hb2 (by omega)
    · skip
      replace hb2 := of_decide_eq_false hb2
      refine AW.skip ?_
      refine AW.seq ?_
      refine AW.seq ?_
      refine AW.region ?_
      refine AO.xs rfl rfl rfl (XS.move rfl) ?_
      refine AO.xs rfl rfl rfl (XS.int rfl rfl rfl) ?_
      refine AO.nil ?_
      refine AW.cond rfl (fun hb3 => ?_) (fun hb3 => ?_)
      · skip
        replace hb3 := eq_of_beq hb3
        obtain rfl : x = 0 := by omega
        refine AW.seq ?_
        refine AW.drawn2 [] [] mix (Nat.zero_le _) rfl rfl ?_
        refine DC2.cons rfl rfl rfl (XS.move rfl) ?_
        refine DC2.cons rfl rfl rfl (XS.move rfl) ?_
        refine DC2.cons rfl rfl rfl (XS.quoU rfl rfl (by omega) (by omega)) ?_
        refine DC2.cons rfl rfl rfl (XS.move rfl) ?_
        refine DC2.cons rfl rfl rfl (XS.move rfl) ?_
        refine DC2.cons rfl rfl rfl (XS.remU rfl rfl (by omega)) ?_
        refine DC2.cons rfl rfl rfl (XS.assign rfl) ?_
        refine DC2.cons rfl rfl rfl (XS.assign rfl) ?_
        refine DC2.any rfl (by kernel_rfl) ?_
        refine AY.nil (by kernel_rfl) ?_
        refine AW.ret ?_
        exact ⟨_, rfl, by simp only [Nat.zero_mul, Nat.zero_add]; rfl⟩
      · skip
        replace hb3 := ne_of_beq_false hb3
        refine AW.skip ?_
        refine AW.seq ?_
        refine AW.region ?_
        refine AO.xs rfl rfl rfl (XS.move rfl) ?_
        refine AO.xs rfl rfl rfl (XS.call rfl (by kernel_rfl) rfl (lz64_c hv)) ?_
        refine AO.xs rfl rfl rfl (XS.convU64 rfl (us rfl) (ik rfl)) ?_
        refine AO.tell 36 rfl (intEq (congrArg Nat.cast (show _ = s by omega))) ?_
        refine AO.xs rfl rfl rfl (XS.assign rfl) ?_
        refine AO.nil ?_
        refine AW.seq ?_
        refine AW.region ?_
        refine AO.xs rfl rfl rfl (XS.move rfl) ?_
        refine AO.xs rfl rfl rfl (XS.move rfl) ?_
        refine AO.xs rfl rfl rfl (XS.shlU rfl rfl) ?_
        refine AO.tell 39 rfl (intEq (congrArg Nat.cast k1)) ?_
        refine AO.xs rfl rfl rfl (XS.assign rfl) ?_
        refine AO.nil ?_
        refine AW.seq ?_
        refine AW.region ?_
        refine AO.xs rfl rfl rfl (XS.move rfl) ?_
        refine AO.xs rfl rfl rfl (XS.shrU (n := 32) rfl rfl (by omega)) ?_
        refine AO.tell 41 rfl (intEq (congrArg Nat.cast (show _ = Y / 4294967296 from rfl))) ?_
        refine AO.xs rfl rfl rfl (XS.assign rfl) ?_
        refine AO.nil ?_
        refine AW.seq ?_
        refine AW.region ?_
        refine AO.xs rfl rfl rfl (XS.move rfl) ?_
        refine AO.xs rfl rfl rfl (XS.mask32 rfl rfl (by omega)) ?_
        refine AO.xs rfl rfl rfl (XS.assign rfl) ?_
        refine AO.nil ?_
        refine AW.seq ?_
        refine AW.region ?_
        refine AO.xs rfl rfl rfl (XS.move rfl) ?_
        refine AO.xs rfl rfl rfl (XS.move rfl) ?_
        refine AO.xs rfl rfl rfl (XS.shlU rfl rfl) ?_
        refine AO.xs rfl rfl rfl (XS.move rfl) ?_
        refine AO.xs rfl rfl rfl (XS.move rfl) ?_
        refine AO.xs rfl rfl rfl (XS.subU (m := 64) rfl rfl (by omega)) ?_
        refine AO.xs rfl rfl rfl (XS.shrU rfl rfl (by omega)) ?_
        refine AO.xs rfl rfl rfl (XS.orU rfl rfl (Nat.mod_lt _ (by decide)) (Nat.lt_of_le_of_lt (Nat.div_le_self _ _) hy)) ?_
        refine AO.tell 51 rfl (intEq (congrArg Nat.cast k2)) ?_
        refine AO.xs rfl rfl rfl (XS.assign rfl) ?_
        refine AO.nil ?_
        refine AW.seq ?_
        refine AW.region ?_
        refine AO.xs rfl rfl rfl (XS.move rfl) ?_
        refine AO.xs rfl rfl rfl (XS.move rfl) ?_
        refine AO.xs rfl rfl rfl (XS.shlU rfl rfl) ?_
        refine AO.tell 54 rfl (intEq (congrArg Nat.cast k3)) ?_
        refine AO.xs rfl rfl rfl (XS.assign rfl) ?_
        refine AO.nil ?_
        refine AW.seq ?_
        refine AW.region ?_
        refine AO.xs rfl rfl rfl (XS.move rfl) ?_
        refine AO.xs rfl rfl rfl (XS.shrU (n := 32) rfl rfl (by omega)) ?_
        refine AO.tell 56 rfl (intEq (congrArg Nat.cast (show _ = Z / 4294967296 from rfl))) ?_
        refine AO.xs rfl rfl rfl (XS.assign rfl) ?_
        refine AO.nil ?_
        refine AW.seq ?_
        refine AW.region ?_
        refine AO.xs rfl rfl rfl (XS.move rfl) ?_
        refine AO.xs rfl rfl rfl (XS.mask32 rfl rfl (by omega)) ?_
        refine AO.xs rfl rfl rfl (XS.assign rfl) ?_
        refine AO.nil ?_
        refine AW.seq ?_
        refine AW.region ?_
        refine AO.xs rfl rfl rfl (XS.move rfl) ?_
        refine AO.xs rfl rfl rfl (XS.move rfl) ?_
        refine AO.xs rfl rfl rfl (XS.quoU rfl rfl (by omega) (by omega)) ?_
        refine AO.xs rfl rfl rfl (XS.assign rfl) ?_
        refine AO.nil ?_
        refine AW.seq ?_
        refine AW.region ?_
        refine AO.xs rfl rfl rfl (XS.move rfl) ?_
        refine AO.xs rfl rfl rfl (XS.move rfl) ?_
        refine AO.xs rfl rfl rfl (XS.move rfl) ?_
        refine AO.xs rfl rfl rfl (XS.mulU rfl rfl) ?_
        refine AO.tell 65 rfl (intEq (congrArg Nat.cast (show _ = X / (Y / 4294967296) * (Y / 4294967296) from Nat.mod_eq_of_lt (by omega)))) ?_
        refine AO.xs rfl rfl rfl (XS.subU rfl rfl ⟨m1, by omega⟩) ?_
        refine AO.tell 66 rfl (intEq (congrArg Nat.cast r1)) ?_
        refine AO.xs rfl rfl rfl (XS.assign rfl) ?_
        refine AO.nil ?_
        refine AW.cutS [2, 6, 7, 8, 9, 10, 11, 13, 14] (fun (_ : Unit) => [(15, .d (.im (.int .u64 (((X * 4294967296 + Z / 4294967296) / Y : Nat) : Int))))]) (fun _ => True) ?_ ?_
        · skip
          refine AW.block ?_
          refine AW.loop (α := Nat × Nat) [2, 6, 7, 8, 9, 10, 11, 13, 14] (fun ((q, r) : Nat × Nat) => [(15, .d (.im (.int .u64 (q : Int)))), (16, .d (.im (.int .u64 (r : Int))))]) (fun _ => _) (fun ((q, r) : Nat × Nat) => q * (Y / 4294967296) + r = X ∧ r < 4294967296 ∧ q ≤ 4294967296 + 1 ∧ dgt 4294967296 (X) (Z / 4294967296) (Y / 4294967296) (Y % 4294967296) ≤ q) (fun ((q, r) : Nat × Nat) => q) ((X / (Y / 4294967296), X % (Y / 4294967296))) ⟨by rw [Nat.mul_comm]; exact Nat.div_add_mod _ _, Nat.lt_of_lt_of_le (Nat.mod_lt _ (by omega)) (by omega), top_small (by omega) (by omega), dgt_top (by omega) (by decide) (by omega)⟩ ⟨rfl, rfl, trivial⟩ ⟨⟨_, rfl, rfl⟩, ⟨_, rfl, rfl⟩, ⟨_, rfl, rfl⟩, ⟨_, rfl, rfl⟩, ⟨_, rfl, rfl⟩, ⟨_, rfl, rfl⟩, ⟨_, rfl, rfl⟩, ⟨_, rfl, rfl⟩, ⟨_, rfl, rfl⟩, trivial⟩ rfl ?_
          intro ⟨q, r⟩ ⟨he, hr, hq, hd⟩
          have w1 : q * (Y % 4294967296) ≤ 4294967297 * 4294967295 := Nat.mul_le_mul hq (by omega)
          refine AW.seq ?_
          refine AW.seq ?_
          refine AW.region ?_
          refine AO.xs rfl rfl rfl (XS.move rfl) ?_
          refine AO.xs rfl rfl rfl (XS.int rfl rfl rfl) ?_
          refine AO.xs rfl rfl rfl (XS.move rfl) ?_
          refine AO.split 69 rfl (fun hg4 => ?_) (fun hg4 => ?_)
          · skip
            have hg4n := of_decide_eq_true hg4
            refine AO.gno rfl rfl rfl rfl rfl rfl hg4 (by decide) rfl ?_
            refine AO.gno rfl rfl rfl rfl rfl rfl hg4 (by decide) rfl ?_
            refine AO.gno rfl rfl rfl rfl rfl rfl hg4 (by decide) rfl ?_
            refine AO.gno rfl rfl rfl rfl rfl rfl hg4 (by decide) rfl ?_
            refine AO.gno rfl rfl rfl rfl rfl rfl hg4 (by decide) rfl ?_
            refine AO.gno rfl rfl rfl rfl rfl rfl hg4 (by decide) rfl ?_
            refine AO.gno rfl rfl rfl rfl rfl rfl hg4 (by decide) rfl ?_
            refine AO.gno rfl rfl rfl rfl rfl rfl hg4 (by decide) rfl ?_
            refine AO.xs rfl rfl rfl (XS.pickT rfl rfl hg4) ?_
            refine AO.nil ?_
            refine AW.condT rfl rfl ?_
            refine AW.skip ?_
            refine AW.block ?_
            refine AW.seq ?_
            have hdq : dgt 4294967296 (X) (Z / 4294967296) (Y / 4294967296) (Y % 4294967296) < q := by first | exact dgt_big (by omega) (by decide) | exact dgt_lt (by omega) (by decide) he (by omega)
            have hq0 : 0 < q := Nat.lt_of_le_of_lt (Nat.zero_le _) hdq
            refine AW.region ?_
            refine AO.xs rfl rfl rfl (XS.move rfl) ?_
            refine AO.xs rfl rfl rfl (XS.subU (n := 1) rfl rfl (by omega)) ?_
            refine AO.xs rfl rfl rfl (XS.assign rfl) ?_
            refine AO.nil ?_
            refine AW.seq ?_
            refine AW.region ?_
            refine AO.xs rfl rfl rfl (XS.move rfl) ?_
            refine AO.xs rfl rfl rfl (XS.move rfl) ?_
            refine AO.xs rfl rfl rfl (XS.addU rfl rfl) ?_
            refine AO.tell 83 rfl (intEq (congrArg Nat.cast (show _ = r + Y / 4294967296 from Nat.mod_eq_of_lt (by omega)))) ?_
            refine AO.xs rfl rfl rfl (XS.assign rfl) ?_
            refine AO.nil ?_
            refine AW.seq ?_
            refine AW.region ?_
            refine AO.xs rfl rfl rfl (XS.move rfl) ?_
            refine AO.xs rfl rfl rfl (XS.int rfl rfl rfl) ?_
            refine AO.nil ?_
            refine AW.cond rfl (fun hb5 => ?_) (fun hb5 => ?_)
            · skip
              replace hb5 := of_decide_eq_true hb5
              refine AW.exit ?_
              exact ⟨(), trivial, ⟨lk_D rfl (intEq (congrArg Nat.cast ((dgt_full (b := 4294967296) (by omega) (by decide) (by omega) (step_qr he hq0) (by omega) (full_lt (step_qr he hq0) (by omega) (by omega)) (Nat.le_sub_one_of_lt hdq)).symm.trans (dgt_two (b := 4294967296) (N := X) (z := Z / 4294967296) (v := Y / 4294967296) (w := Y % 4294967296) (Y := Y) (by decide) (yy Y) (show X < Y by omega) (show Z / 4294967296 < 4294967296 by omega))))), trivial⟩, ⟨⟨_, rfl, rfl⟩, ⟨_, rfl, rfl⟩, ⟨_, rfl, rfl⟩, ⟨_, rfl, rfl⟩, ⟨_, rfl, rfl⟩, ⟨_, rfl, rfl⟩, ⟨_, rfl, rfl⟩, ⟨_, rfl, rfl⟩, ⟨_, rfl, rfl⟩, trivial⟩, rfl⟩
            · skip
              replace hb5 := of_decide_eq_false hb5
              refine AW.skip ?_
              exact ⟨(q - 1, r + Y / 4294967296), ⟨step_qr he hq0, by omega, by omega, Nat.le_sub_one_of_lt hdq⟩, (by dsimp only; omega), ⟨rfl, rfl, trivial⟩, ⟨⟨_, rfl, rfl⟩, ⟨_, rfl, rfl⟩, ⟨_, rfl, rfl⟩, ⟨_, rfl, rfl⟩, ⟨_, rfl, rfl⟩, ⟨_, rfl, rfl⟩, ⟨_, rfl, rfl⟩, ⟨_, rfl, rfl⟩, ⟨_, rfl, rfl⟩, trivial⟩, rfl⟩
          · skip
            have hg4n := of_decide_eq_false hg4
            refine AO.gyes rfl rfl rfl rfl rfl rfl hg4 rfl (XS.move rfl) ?_
            refine AO.gyes rfl rfl rfl rfl rfl rfl hg4 rfl (XS.move rfl) ?_
            refine AO.gyes rfl rfl rfl rfl rfl rfl hg4 rfl (XS.mulU rfl rfl) ?_
            refine AO.tell 72 rfl (intEq (congrArg Nat.cast (show _ = q * (Y % 4294967296) from Nat.mod_eq_of_lt (by omega)))) ?_
            refine AO.gyes rfl rfl rfl rfl rfl rfl hg4 rfl (XS.move rfl) ?_
            refine AO.gyes rfl rfl rfl rfl rfl rfl hg4 rfl (XS.mulU (m := 4294967296) rfl rfl) ?_
            refine AO.tell 74 rfl (intEq (congrArg Nat.cast (show _ = 4294967296 * r from Nat.mod_eq_of_lt (by omega)))) ?_
            refine AO.gyes rfl rfl rfl rfl rfl rfl hg4 rfl (XS.move rfl) ?_
            refine AO.gyes rfl rfl rfl rfl rfl rfl hg4 rfl (XS.addU rfl rfl) ?_
            refine AO.tell 76 rfl (intEq (congrArg Nat.cast (show _ = 4294967296 * r + Z / 4294967296 from Nat.mod_eq_of_lt (by omega)))) ?_
            refine AO.gyes rfl rfl rfl rfl rfl rfl hg4 rfl (XS.int rfl rfl rfl) ?_
            refine AO.xs rfl rfl rfl (XS.pickF rfl rfl hg4) ?_
            refine AO.nil ?_
            refine AW.cond rfl (fun hb6 => ?_) (fun hb6 => ?_)
            · skip
              replace hb6 := of_decide_eq_true hb6
              refine AW.skip ?_
              refine AW.block ?_
              refine AW.seq ?_
              have hdq : dgt 4294967296 (X) (Z / 4294967296) (Y / 4294967296) (Y % 4294967296) < q := by first | exact dgt_big (by omega) (by decide) | exact dgt_lt (by omega) (by decide) he (by omega)
              have hq0 : 0 < q := Nat.lt_of_le_of_lt (Nat.zero_le _) hdq
              refine AW.region ?_
              refine AO.xs rfl rfl rfl (XS.move rfl) ?_
              refine AO.xs rfl rfl rfl (XS.subU (n := 1) rfl rfl (by omega)) ?_
              refine AO.xs rfl rfl rfl (XS.assign rfl) ?_
              refine AO.nil ?_
              refine AW.seq ?_
              refine AW.region ?_
              refine AO.xs rfl rfl rfl (XS.move rfl) ?_
              refine AO.xs rfl rfl rfl (XS.move rfl) ?_
              refine AO.xs rfl rfl rfl (XS.addU rfl rfl) ?_
              refine AO.tell 83 rfl (intEq (congrArg Nat.cast (show _ = r + Y / 4294967296 from Nat.mod_eq_of_lt (by omega)))) ?_
              refine AO.xs rfl rfl rfl (XS.assign rfl) ?_
              refine AO.nil ?_
              refine AW.seq ?_
              refine AW.region ?_
              refine AO.xs rfl rfl rfl (XS.move rfl) ?_
              refine AO.xs rfl rfl rfl (XS.int rfl rfl rfl) ?_
              refine AO.nil ?_
              refine AW.cond rfl (fun hb7 => ?_) (fun hb7 => ?_)
              · skip
                replace hb7 := of_decide_eq_true hb7
                refine AW.exit ?_
                exact ⟨(), trivial, ⟨lk_D rfl (intEq (congrArg Nat.cast ((dgt_full (b := 4294967296) (by omega) (by decide) (by omega) (step_qr he hq0) (by omega) (full_lt (step_qr he hq0) (by omega) (by omega)) (Nat.le_sub_one_of_lt hdq)).symm.trans (dgt_two (b := 4294967296) (N := X) (z := Z / 4294967296) (v := Y / 4294967296) (w := Y % 4294967296) (Y := Y) (by decide) (yy Y) (show X < Y by omega) (show Z / 4294967296 < 4294967296 by omega))))), trivial⟩, ⟨⟨_, rfl, rfl⟩, ⟨_, rfl, rfl⟩, ⟨_, rfl, rfl⟩, ⟨_, rfl, rfl⟩, ⟨_, rfl, rfl⟩, ⟨_, rfl, rfl⟩, ⟨_, rfl, rfl⟩, ⟨_, rfl, rfl⟩, ⟨_, rfl, rfl⟩, trivial⟩, rfl⟩
              · skip
                replace hb7 := of_decide_eq_false hb7
                refine AW.skip ?_
                exact ⟨(q - 1, r + Y / 4294967296), ⟨step_qr he hq0, by omega, by omega, Nat.le_sub_one_of_lt hdq⟩, (by dsimp only; omega), ⟨rfl, rfl, trivial⟩, ⟨⟨_, rfl, rfl⟩, ⟨_, rfl, rfl⟩, ⟨_, rfl, rfl⟩, ⟨_, rfl, rfl⟩, ⟨_, rfl, rfl⟩, ⟨_, rfl, rfl⟩, ⟨_, rfl, rfl⟩, ⟨_, rfl, rfl⟩, ⟨_, rfl, rfl⟩, trivial⟩, rfl⟩
            · skip
              replace hb6 := of_decide_eq_false hb6
              refine AW.exit ?_
              exact ⟨(), trivial, ⟨lk_D rfl (intEq (congrArg Nat.cast ((dgt_eq (b := 4294967296) (by omega) (by decide) he (by omega) (by omega) hd).symm.trans (dgt_two (b := 4294967296) (N := X) (z := Z / 4294967296) (v := Y / 4294967296) (w := Y % 4294967296) (Y := Y) (by decide) (yy Y) (show X < Y by omega) (show Z / 4294967296 < 4294967296 by omega))))), trivial⟩, ⟨⟨_, rfl, rfl⟩, ⟨_, rfl, rfl⟩, ⟨_, rfl, rfl⟩, ⟨_, rfl, rfl⟩, ⟨_, rfl, rfl⟩, ⟨_, rfl, rfl⟩, ⟨_, rfl, rfl⟩, ⟨_, rfl, rfl⟩, ⟨_, rfl, rfl⟩, trivial⟩, rfl⟩
        · skip
          intro _ _
          refine AW.seq ?_
          refine AW.region ?_
          refine AO.xs rfl rfl rfl (XS.move rfl) ?_
          refine AO.xs rfl rfl rfl (XS.mulU (n := 4294967296) rfl rfl) ?_
          refine AO.xs rfl rfl rfl (XS.move rfl) ?_
          refine AO.xs rfl rfl rfl (XS.addU rfl rfl) ?_
          refine AO.xs rfl rfl rfl (XS.move rfl) ?_
          refine AO.xs rfl rfl rfl (XS.move rfl) ?_
          refine AO.xs rfl rfl rfl (XS.mulU rfl rfl) ?_
          refine AO.xs rfl rfl rfl (XS.subW rfl rfl (by omega)) ?_
          refine AO.tell 93 rfl (intEq (congrArg Nat.cast (show _ = R from (rest_wrap rfl k8 (by omega)).trans hR.symm))) ?_
          refine AO.xs rfl rfl rfl (XS.assign rfl) ?_
          refine AO.nil ?_
          refine AW.seq ?_
          refine AW.region ?_
          refine AO.xs rfl rfl rfl (XS.move rfl) ?_
          refine AO.xs rfl rfl rfl (XS.move rfl) ?_
          refine AO.xs rfl rfl rfl (XS.quoU rfl rfl (by omega) (by omega)) ?_
          refine AO.xs rfl rfl rfl (XS.assign rfl) ?_
          refine AO.nil ?_
          refine AW.seq ?_
          refine AW.region ?_
          refine AO.xs rfl rfl rfl (XS.move rfl) ?_
          refine AO.xs rfl rfl rfl (XS.move rfl) ?_
          refine AO.xs rfl rfl rfl (XS.move rfl) ?_
          refine AO.xs rfl rfl rfl (XS.mulU rfl rfl) ?_
          refine AO.tell 100 rfl (intEq (congrArg Nat.cast (show _ = R / (Y / 4294967296) * (Y / 4294967296) from Nat.mod_eq_of_lt (by omega)))) ?_
          refine AO.xs rfl rfl rfl (XS.subU rfl rfl ⟨m2, by omega⟩) ?_
          refine AO.tell 101 rfl (intEq (congrArg Nat.cast r2)) ?_
          refine AO.xs rfl rfl rfl (XS.assign rfl) ?_
          refine AO.nil ?_
          refine AW.cutS [2, 6, 7, 8, 14, 15, 17] (fun (_ : Unit) => [(18, .d (.im (.int .u64 (((R * 4294967296 + Z % 4294967296) / Y : Nat) : Int))))]) (fun _ => True) ?_ ?_
          · skip
            refine AW.block ?_
            refine AW.loop (α := Nat × Nat) [2, 6, 7, 8, 9, 10, 14, 15, 17] (fun ((q, r) : Nat × Nat) => [(18, .d (.im (.int .u64 (q : Int)))), (16, .d (.im (.int .u64 (r : Int))))]) (fun _ => _) (fun ((q, r) : Nat × Nat) => q * (Y / 4294967296) + r = R ∧ r < 4294967296 ∧ q ≤ 4294967296 + 1 ∧ dgt 4294967296 (R) (Z % 4294967296) (Y / 4294967296) (Y % 4294967296) ≤ q) (fun ((q, r) : Nat × Nat) => q) ((R / (Y / 4294967296), R % (Y / 4294967296))) ⟨by rw [Nat.mul_comm]; exact Nat.div_add_mod _ _, Nat.lt_of_lt_of_le (Nat.mod_lt _ (by omega)) (by omega), top_small (by omega) (by omega), dgt_top (by omega) (by decide) (by omega)⟩ ⟨rfl, rfl, trivial⟩ ⟨⟨_, rfl, rfl⟩, ⟨_, rfl, rfl⟩, ⟨_, rfl, rfl⟩, ⟨_, rfl, rfl⟩, ⟨_, rfl, rfl⟩, ⟨_, rfl, rfl⟩, ⟨_, rfl, rfl⟩, ⟨_, rfl, rfl⟩, ⟨_, rfl, rfl⟩, trivial⟩ rfl ?_
            intro ⟨q, r⟩ ⟨he, hr, hq, hd⟩
            have w1 : q * (Y % 4294967296) ≤ 4294967297 * 4294967295 := Nat.mul_le_mul hq (by omega)
            refine AW.seq ?_
            refine AW.seq ?_
            refine AW.region ?_
            refine AO.xs rfl rfl rfl (XS.move rfl) ?_
            refine AO.xs rfl rfl rfl (XS.int rfl rfl rfl) ?_
            refine AO.xs rfl rfl rfl (XS.move rfl) ?_
            refine AO.split 104 rfl (fun hg8 => ?_) (fun hg8 => ?_)
            · skip
              have hg8n := of_decide_eq_true hg8
              refine AO.gno rfl rfl rfl rfl rfl rfl hg8 (by decide) rfl ?_
              refine AO.gno rfl rfl rfl rfl rfl rfl hg8 (by decide) rfl ?_
              refine AO.gno rfl rfl rfl rfl rfl rfl hg8 (by decide) rfl ?_
              refine AO.gno rfl rfl rfl rfl rfl rfl hg8 (by decide) rfl ?_
              refine AO.gno rfl rfl rfl rfl rfl rfl hg8 (by decide) rfl ?_
              refine AO.gno rfl rfl rfl rfl rfl rfl hg8 (by decide) rfl ?_
              refine AO.gno rfl rfl rfl rfl rfl rfl hg8 (by decide) rfl ?_
              refine AO.gno rfl rfl rfl rfl rfl rfl hg8 (by decide) rfl ?_
              refine AO.xs rfl rfl rfl (XS.pickT rfl rfl hg8) ?_
              refine AO.nil ?_
              refine AW.condT rfl rfl ?_
              refine AW.skip ?_
              refine AW.block ?_
              refine AW.seq ?_
              have hdq : dgt 4294967296 (R) (Z % 4294967296) (Y / 4294967296) (Y % 4294967296) < q := by first | exact dgt_big (by omega) (by decide) | exact dgt_lt (by omega) (by decide) he (by omega)
              have hq0 : 0 < q := Nat.lt_of_le_of_lt (Nat.zero_le _) hdq
              refine AW.region ?_
              refine AO.xs rfl rfl rfl (XS.move rfl) ?_
              refine AO.xs rfl rfl rfl (XS.subU (n := 1) rfl rfl (by omega)) ?_
              refine AO.xs rfl rfl rfl (XS.assign rfl) ?_
              refine AO.nil ?_
              refine AW.seq ?_
              refine AW.region ?_
              refine AO.xs rfl rfl rfl (XS.move rfl) ?_
              refine AO.xs rfl rfl rfl (XS.move rfl) ?_
              refine AO.xs rfl rfl rfl (XS.addU rfl rfl) ?_
              refine AO.tell 118 rfl (intEq (congrArg Nat.cast (show _ = r + Y / 4294967296 from Nat.mod_eq_of_lt (by omega)))) ?_
              refine AO.xs rfl rfl rfl (XS.assign rfl) ?_
              refine AO.nil ?_
              refine AW.seq ?_
              refine AW.region ?_
              refine AO.xs rfl rfl rfl (XS.move rfl) ?_
              refine AO.xs rfl rfl rfl (XS.int rfl rfl rfl) ?_
              refine AO.nil ?_
              refine AW.cond rfl (fun hb9 => ?_) (fun hb9 => ?_)
              · skip
                replace hb9 := of_decide_eq_true hb9
                refine AW.exit ?_
                exact ⟨(), trivial, ⟨lk_D rfl (intEq (congrArg Nat.cast ((dgt_full (b := 4294967296) (by omega) (by decide) (by omega) (step_qr he hq0) (by omega) (full_lt (step_qr he hq0) (by omega) (by omega)) (Nat.le_sub_one_of_lt hdq)).symm.trans (dgt_two (b := 4294967296) (N := R) (z := Z % 4294967296) (v := Y / 4294967296) (w := Y % 4294967296) (Y := Y) (by decide) (yy Y) (show R < Y by omega) (show Z % 4294967296 < 4294967296 by omega))))), trivial⟩, ⟨⟨_, rfl, rfl⟩, ⟨_, rfl, rfl⟩, ⟨_, rfl, rfl⟩, ⟨_, rfl, rfl⟩, ⟨_, rfl, rfl⟩, ⟨_, rfl, rfl⟩, ⟨_, rfl, rfl⟩, trivial⟩, rfl⟩
              · skip
                replace hb9 := of_decide_eq_false hb9
                refine AW.skip ?_
                exact ⟨(q - 1, r + Y / 4294967296), ⟨step_qr he hq0, by omega, by omega, Nat.le_sub_one_of_lt hdq⟩, (by dsimp only; omega), ⟨rfl, rfl, trivial⟩, ⟨⟨_, rfl, rfl⟩, ⟨_, rfl, rfl⟩, ⟨_, rfl, rfl⟩, ⟨_, rfl, rfl⟩, ⟨_, rfl, rfl⟩, ⟨_, rfl, rfl⟩, ⟨_, rfl, rfl⟩, ⟨_, rfl, rfl⟩, ⟨_, rfl, rfl⟩, trivial⟩, rfl⟩
            · skip
              have hg8n := of_decide_eq_false hg8
              refine AO.gyes rfl rfl rfl rfl rfl rfl hg8 rfl (XS.move rfl) ?_
              refine AO.gyes rfl rfl rfl rfl rfl rfl hg8 rfl (XS.move rfl) ?_
              refine AO.gyes rfl rfl rfl rfl rfl rfl hg8 rfl (XS.mulU rfl rfl) ?_
              refine AO.tell 107 rfl (intEq (congrArg Nat.cast (show _ = q * (Y % 4294967296) from Nat.mod_eq_of_lt (by omega)))) ?_
              refine AO.gyes rfl rfl rfl rfl rfl rfl hg8 rfl (XS.move rfl) ?_
              refine AO.gyes rfl rfl rfl rfl rfl rfl hg8 rfl (XS.mulU (m := 4294967296) rfl rfl) ?_
              refine AO.tell 109 rfl (intEq (congrArg Nat.cast (show _ = 4294967296 * r from Nat.mod_eq_of_lt (by omega)))) ?_
              refine AO.gyes rfl rfl rfl rfl rfl rfl hg8 rfl (XS.move rfl) ?_
              refine AO.gyes rfl rfl rfl rfl rfl rfl hg8 rfl (XS.addU rfl rfl) ?_
              refine AO.tell 111 rfl (intEq (congrArg Nat.cast (show _ = 4294967296 * r + Z % 4294967296 from Nat.mod_eq_of_lt (by omega)))) ?_
              refine AO.gyes rfl rfl rfl rfl rfl rfl hg8 rfl (XS.int rfl rfl rfl) ?_
              refine AO.xs rfl rfl rfl (XS.pickF rfl rfl hg8) ?_
              refine AO.nil ?_
              refine AW.cond rfl (fun hb10 => ?_) (fun hb10 => ?_)
              · skip
                replace hb10 := of_decide_eq_true hb10
                refine AW.skip ?_
                refine AW.block ?_
                refine AW.seq ?_
                have hdq : dgt 4294967296 (R) (Z % 4294967296) (Y / 4294967296) (Y % 4294967296) < q := by first | exact dgt_big (by omega) (by decide) | exact dgt_lt (by omega) (by decide) he (by omega)
                have hq0 : 0 < q := Nat.lt_of_le_of_lt (Nat.zero_le _) hdq
                refine AW.region ?_
                refine AO.xs rfl rfl rfl (XS.move rfl) ?_
                refine AO.xs rfl rfl rfl (XS.subU (n := 1) rfl rfl (by omega)) ?_
                refine AO.xs rfl rfl rfl (XS.assign rfl) ?_
                refine AO.nil ?_
                refine AW.seq ?_
                refine AW.region ?_
                refine AO.xs rfl rfl rfl (XS.move rfl) ?_
                refine AO.xs rfl rfl rfl (XS.move rfl) ?_
                refine AO.xs rfl rfl rfl (XS.addU rfl rfl) ?_
                refine AO.tell 118 rfl (intEq (congrArg Nat.cast (show _ = r + Y / 4294967296 from Nat.mod_eq_of_lt (by omega)))) ?_
                refine AO.xs rfl rfl rfl (XS.assign rfl) ?_
                refine AO.nil ?_
                refine AW.seq ?_
                refine AW.region ?_
                refine AO.xs rfl rfl rfl (XS.move rfl) ?_
                refine AO.xs rfl rfl rfl (XS.int rfl rfl rfl) ?_
                refine AO.nil ?_
                refine AW.cond rfl (fun hb11 => ?_) (fun hb11 => ?_)
                · skip
                  replace hb11 := of_decide_eq_true hb11
                  refine AW.exit ?_
                  exact ⟨(), trivial, ⟨lk_D rfl (intEq (congrArg Nat.cast ((dgt_full (b := 4294967296) (by omega) (by decide) (by omega) (step_qr he hq0) (by omega) (full_lt (step_qr he hq0) (by omega) (by omega)) (Nat.le_sub_one_of_lt hdq)).symm.trans (dgt_two (b := 4294967296) (N := R) (z := Z % 4294967296) (v := Y / 4294967296) (w := Y % 4294967296) (Y := Y) (by decide) (yy Y) (show R < Y by omega) (show Z % 4294967296 < 4294967296 by omega))))), trivial⟩, ⟨⟨_, rfl, rfl⟩, ⟨_, rfl, rfl⟩, ⟨_, rfl, rfl⟩, ⟨_, rfl, rfl⟩, ⟨_, rfl, rfl⟩, ⟨_, rfl, rfl⟩, ⟨_, rfl, rfl⟩, trivial⟩, rfl⟩
                · skip
                  replace hb11 := of_decide_eq_false hb11
                  refine AW.skip ?_
                  exact ⟨(q - 1, r + Y / 4294967296), ⟨step_qr he hq0, by omega, by omega, Nat.le_sub_one_of_lt hdq⟩, (by dsimp only; omega), ⟨rfl, rfl, trivial⟩, ⟨⟨_, rfl, rfl⟩, ⟨_, rfl, rfl⟩, ⟨_, rfl, rfl⟩, ⟨_, rfl, rfl⟩, ⟨_, rfl, rfl⟩, ⟨_, rfl, rfl⟩, ⟨_, rfl, rfl⟩, ⟨_, rfl, rfl⟩, ⟨_, rfl, rfl⟩, trivial⟩, rfl⟩
              · skip
                replace hb10 := of_decide_eq_false hb10
                refine AW.exit ?_
                exact ⟨(), trivial, ⟨lk_D rfl (intEq (congrArg Nat.cast ((dgt_eq (b := 4294967296) (by omega) (by decide) he (by omega) (by omega) hd).symm.trans (dgt_two (b := 4294967296) (N := R) (z := Z % 4294967296) (v := Y / 4294967296) (w := Y % 4294967296) (Y := Y) (by decide) (yy Y) (show R < Y by omega) (show Z % 4294967296 < 4294967296 by omega))))), trivial⟩, ⟨⟨_, rfl, rfl⟩, ⟨_, rfl, rfl⟩, ⟨_, rfl, rfl⟩, ⟨_, rfl, rfl⟩, ⟨_, rfl, rfl⟩, ⟨_, rfl, rfl⟩, ⟨_, rfl, rfl⟩, trivial⟩, rfl⟩
          · skip
            intro _ _
            refine AW.seq ?_
            refine AW.region ?_
            refine AO.xs rfl rfl rfl (XS.move rfl) ?_
            refine AO.xs rfl rfl rfl (XS.mulU (n := 4294967296) rfl rfl) ?_
            refine AO.tell 122 rfl (intEq (congrArg Nat.cast (show _ = (X * 4294967296 + Z / 4294967296) / Y * 4294967296 from Nat.mod_eq_of_lt (half_lt q1c)))) ?_
            refine AO.xs rfl rfl rfl (XS.move rfl) ?_
            refine AO.xs rfl rfl rfl (XS.addU rfl rfl) ?_
            refine AO.tell 124 rfl (intEq (congrArg Nat.cast (show _ = (x * 18446744073709551616 + y) / v from (congrArg (fun z => z % 18446744073709551616) e1).trans (Nat.mod_eq_of_lt qq)))) ?_
            refine AO.xs rfl rfl rfl (XS.move rfl) ?_
            refine AO.xs rfl rfl rfl (XS.mulU (n := 4294967296) rfl rfl) ?_
            refine AO.xs rfl rfl rfl (XS.move rfl) ?_
            refine AO.xs rfl rfl rfl (XS.addU rfl rfl) ?_
            refine AO.xs rfl rfl rfl (XS.move rfl) ?_
            refine AO.xs rfl rfl rfl (XS.move rfl) ?_
            refine AO.xs rfl rfl rfl (XS.mulU rfl rfl) ?_
            refine AO.xs rfl rfl rfl (XS.subW rfl rfl (by omega)) ?_
            refine AO.tell 132 rfl (intEq (congrArg Nat.cast (show _ = (R * 4294967296 + Z % 4294967296) % Y from rest_wrap rfl k8 (by omega)))) ?_
            refine AO.xs rfl rfl rfl (XS.move rfl) ?_
            refine AO.xs rfl rfl rfl (XS.shrU rfl rfl (by omega)) ?_
            refine AO.tell 134 rfl (intEq (congrArg Nat.cast e2)) ?_
            refine AO.xs rfl rfl rfl (XS.assign rfl) ?_
            refine AO.xs rfl rfl rfl (XS.assign rfl) ?_
            refine AO.nil ?_
            refine AW.ret ?_
            exact ⟨_, rfl, rfl⟩

set_option maxRecDepth 100000 in
theorem digit_c {x y z v w : Nat} (hx : x ≤ v) (hy : y < 18446744073709551616) (hz : z < 18446744073709551616) (hv : v < 18446744073709551616) (hw : w < 18446744073709551616) (hn : 18446744073709551616 ≤ 2 * v) : AC Try.prog 170 [.im (.int .u64 (x : Int)), .im (.int .u64 (y : Int)), .im (.int .u64 (z : Int)), .im (.int .u64 (v : Int)), .im (.int .u64 (w : Int))] (fun d => d = .im (.int .u64 ((dgt 18446744073709551616 (x * 18446744073709551616 + y) z v w : Nat) : Int))) := by
  refine AC.intro Try.func170 Try.ntmps170 Try.results170 rfl (by simp) (fun w0 T => ?_)
  have hv0 : 0 < v := by omega
  refine AW.seq ?_
  refine AW.region ?_
  refine AO.xs rfl rfl rfl (XS.assign rfl) ?_
  refine AO.nil ?_
  refine AW.seq ?_
  refine AW.region ?_
  refine AO.xs rfl rfl rfl (XS.assign rfl) ?_
  refine AO.xs rfl rfl rfl (XS.assign rfl) ?_
  refine AO.nil ?_
  refine AW.cutS [2, 3, 4] (fun ((q, r) : Nat × Nat) => [(11, .d (.im (.int .u64 (q : Int)))), (12, .d (.im (.int .u64 (r : Int))))]) (fun ((q, r) : Nat × Nat) => q * v + r = x * 18446744073709551616 + y ∧ r < 18446744073709551616 ∧ q < 18446744073709551616 ∧ dgt 18446744073709551616 (x * 18446744073709551616 + y) z v w ≤ q) ?_ ?_
  · skip
    refine AW.seq ?_
    refine AW.region ?_
    refine AO.xs rfl rfl rfl (XS.move rfl) ?_
    refine AO.xs rfl rfl rfl (XS.move rfl) ?_
    refine AO.xs rfl rfl rfl (XS.int rfl rfl rfl) ?_
    refine AO.nil ?_
    refine AW.cond rfl (fun hb1 => ?_) (fun hb1 => ?_)
    · skip
      replace hb1 := of_decide_eq_true hb1
      refine AW.region ?_
      refine AO.xs rfl rfl rfl (XS.move rfl) ?_
      refine AO.xs rfl rfl rfl (XS.move rfl) ?_
      refine AO.xs rfl rfl rfl (XS.move rfl) ?_
      refine AO.xs rfl rfl rfl (XS.call rfl (by kernel_rfl) rfl (div64_c (by omega) hy hv)) ?_
      refine AO.xs rfl rfl rfl (XS.move rfl) ?_
      refine AO.xs rfl rfl rfl (XS.extract rfl rfl) ?_
      refine AO.xs rfl rfl rfl (XS.extract rfl rfl) ?_
      refine AO.xs rfl rfl rfl (XS.assign rfl) ?_
      refine AO.xs rfl rfl rfl (XS.assign rfl) ?_
      refine AO.nil ?_
      exact ⟨((x * 18446744073709551616 + y) / v, (x * 18446744073709551616 + y) % v), ⟨by rw [Nat.mul_comm]; exact Nat.div_add_mod _ _, Nat.lt_trans (Nat.mod_lt _ hv0) hv, word_lt (by omega) hy, dgt_top hv0 (by decide) hz⟩, ⟨rfl, rfl, trivial⟩, ⟨⟨_, rfl, rfl⟩, ⟨_, rfl, rfl⟩, ⟨_, rfl, rfl⟩, trivial⟩, rfl⟩
    · skip
      replace hb1 := of_decide_eq_false hb1
      refine AW.seq ?_
      refine AW.region ?_
      refine AO.xs rfl rfl rfl (XS.move rfl) ?_
      refine AO.xs rfl rfl rfl (XS.move rfl) ?_
      refine AO.xs rfl rfl rfl (XS.ext rfl rfl (run_add64N ext_add (k := 0) (by decide)) rfl rfl) ?_
      refine AO.xs rfl rfl rfl (XS.move rfl) ?_
      refine AO.xs rfl rfl rfl (XS.extract rfl rfl) ?_
      refine AO.xs rfl rfl rfl (XS.extract rfl rfl) ?_
      refine AO.xs rfl rfl rfl (XS.assign rfl) ?_
      refine AO.xs rfl rfl rfl (XS.assign rfl) ?_
      refine AO.nil ?_
      refine AW.seq ?_
      refine AW.seq ?_
      refine AW.region ?_
      refine AO.xs rfl rfl rfl (XS.move rfl) ?_
      refine AO.xs rfl rfl rfl (XS.int rfl rfl rfl) ?_
      refine AO.nil ?_
      refine AW.cond rfl (fun hb2 => ?_) (fun hb2 => ?_)
      · skip
        replace hb2 := eq_of_beq hb2
        refine AW.seq ?_
        refine AW.region ?_
        refine AO.xs rfl rfl rfl (XS.move rfl) ?_
        refine AO.xs rfl rfl rfl (XS.assign rfl) ?_
        refine AO.nil ?_
        refine AW.ret ?_
        exact ⟨_, rfl, intEq (congrArg Nat.cast (dgt_full (b := 18446744073709551616) (q := 18446744073709551615) (r := y + v) hv0 (by decide) hw (by omega) (by omega) (by decide) (Nat.le_sub_one_of_lt (dgt_less (by decide)))).symm)⟩
      · skip
        replace hb2 := ne_of_beq_false hb2
        refine AW.skip ?_
        refine AW.region ?_
        refine AO.xs rfl rfl rfl (XS.move rfl) ?_
        refine AO.xs rfl rfl rfl (XS.assign rfl) ?_
        refine AO.nil ?_
        exact ⟨(18446744073709551615, y + v), ⟨by omega, by omega, by decide, Nat.le_sub_one_of_lt (dgt_less (by decide))⟩, ⟨rfl, lk_D rfl (intEq (congrArg Nat.cast (show _ = y + v by omega))), trivial⟩, ⟨⟨_, rfl, rfl⟩, ⟨_, rfl, rfl⟩, ⟨_, rfl, rfl⟩, trivial⟩, rfl⟩
  · skip
    intro ⟨q0, r0⟩ ⟨he0, hr0, hq0, hd0⟩
    refine AW.block ?_
    refine AW.loop (α := Nat × Nat) [2, 3, 4] (fun ((q, r) : Nat × Nat) => [(11, .d (.im (.int .u64 (q : Int)))), (12, .d (.im (.int .u64 (r : Int))))]) (fun _ => _) (fun ((q, r) : Nat × Nat) => q * v + r = x * 18446744073709551616 + y ∧ r < 18446744073709551616 ∧ q < 18446744073709551616 ∧ dgt 18446744073709551616 (x * 18446744073709551616 + y) z v w ≤ q) (fun ((q, r) : Nat × Nat) => q) ((q0, r0)) ⟨he0, hr0, hq0, hd0⟩ ⟨rfl, rfl, trivial⟩ ⟨⟨_, rfl, rfl⟩, ⟨_, rfl, rfl⟩, ⟨_, rfl, rfl⟩, trivial⟩ rfl ?_
    intro ⟨q, r⟩ ⟨he, hr, hq, hd⟩
    have w0 := Nat.div_add_mod (q * w) 18446744073709551616
    refine AW.block ?_
    refine AW.seq ?_
    refine AW.region ?_
    refine AO.xs rfl rfl rfl (XS.move rfl) ?_
    refine AO.xs rfl rfl rfl (XS.move rfl) ?_
    refine AO.xs rfl rfl rfl (XS.call rfl (by kernel_rfl) rfl (mul64_c (by omega) hw)) ?_
    refine AO.xs rfl rfl rfl (XS.move rfl) ?_
    refine AO.xs rfl rfl rfl (XS.extract rfl rfl) ?_
    refine AO.xs rfl rfl rfl (XS.extract rfl rfl) ?_
    refine AO.xs rfl rfl rfl (XS.assign rfl) ?_
    refine AO.xs rfl rfl rfl (XS.assign rfl) ?_
    refine AO.nil ?_
    refine AW.seq ?_
    refine AW.seq ?_
    refine AW.region ?_
    refine AO.xs rfl rfl rfl (XS.move rfl) ?_
    refine AO.xs rfl rfl rfl (XS.move rfl) ?_
    refine AO.xs rfl rfl rfl (XS.int rfl rfl rfl) ?_
    refine AO.xs rfl rfl rfl (XS.move rfl) ?_
    refine AO.split 48 rfl (fun hg3 => ?_) (fun hg3 => ?_)
    · skip
      have hg3n := of_decide_eq_true hg3
      refine AO.gno rfl rfl rfl rfl rfl rfl hg3 (by decide) rfl ?_
      refine AO.gno rfl rfl rfl rfl rfl rfl hg3 (by decide) rfl ?_
      refine AO.gno rfl rfl rfl rfl rfl rfl hg3 (by decide) rfl ?_
      refine AO.gno rfl rfl rfl rfl rfl rfl hg3 (by decide) rfl ?_
      refine AO.gnt rfl rfl rfl rfl rfl rfl rfl ?_
      refine AO.gnt rfl rfl rfl rfl rfl rfl rfl ?_
      refine AO.gnt rfl rfl rfl rfl rfl rfl rfl ?_
      refine AO.gno rfl rfl rfl rfl rfl rfl hg3 (by decide) rfl ?_
      refine AO.xs rfl rfl rfl (XS.pickT rfl rfl hg3) ?_
      refine AO.nil ?_
      refine AW.condT rfl rfl ?_
      refine AW.seq ?_
      refine AW.region ?_
      refine AO.xs rfl rfl rfl (XS.move rfl) ?_
      refine AO.xs rfl rfl rfl (XS.assign rfl) ?_
      refine AO.nil ?_
      refine AW.ret ?_
      exact ⟨_, rfl, intEq (congrArg Nat.cast (dgt_eq (b := 18446744073709551616) hv0 (by decide) he (by omega) hq hd).symm)⟩
    · skip
      have hg3n := of_decide_eq_false hg3
      refine AO.gyes rfl rfl rfl rfl rfl rfl hg3 rfl (XS.move rfl) ?_
      refine AO.gyes rfl rfl rfl rfl rfl rfl hg3 rfl (XS.move rfl) ?_
      refine AO.gyes rfl rfl rfl rfl rfl rfl hg3 rfl (XS.int rfl rfl rfl) ?_
      refine AO.gyes rfl rfl rfl rfl rfl rfl hg3 rfl (XS.move rfl) ?_
      refine AO.split 52 rfl (fun hg4 => ?_) (fun hg4 => ?_)
      · skip
        have hg4n := eq_of_beq hg4
        refine AO.gyes rfl rfl rfl rfl rfl rfl hg4 rfl (XS.move rfl) ?_
        refine AO.gyes rfl rfl rfl rfl rfl rfl hg4 rfl (XS.move rfl) ?_
        refine AO.gyes rfl rfl rfl rfl rfl rfl hg4 rfl (XS.int rfl rfl rfl) ?_
        refine AO.gyes rfl rfl rfl rfl rfl rfl hg3 rfl (XS.pickT rfl rfl hg4) ?_
        refine AO.xs rfl rfl rfl (XS.pickF rfl rfl hg3) ?_
        refine AO.nil ?_
        refine AW.cond rfl (fun hb5 => ?_) (fun hb5 => ?_)
        · skip
          replace hb5 := of_decide_eq_true hb5
          refine AW.seq ?_
          refine AW.region ?_
          refine AO.xs rfl rfl rfl (XS.move rfl) ?_
          refine AO.xs rfl rfl rfl (XS.assign rfl) ?_
          refine AO.nil ?_
          refine AW.ret ?_
          exact ⟨_, rfl, intEq (congrArg Nat.cast (dgt_eq (b := 18446744073709551616) hv0 (by decide) he (by omega) hq hd).symm)⟩
        · skip
          replace hb5 := of_decide_eq_false hb5
          refine AW.skip ?_
          refine AW.seq ?_
          have hdq : dgt 18446744073709551616 (x * 18446744073709551616 + y) z v w < q := dgt_lt (b := 18446744073709551616) hv0 (by decide) he (by omega)
          have hp : 0 < q := Nat.lt_of_le_of_lt (Nat.zero_le _) hdq
          refine AW.region ?_
          refine AO.xs rfl rfl rfl (XS.move rfl) ?_
          refine AO.xs rfl rfl rfl (XS.subU (n := 1) rfl rfl (by omega)) ?_
          refine AO.xs rfl rfl rfl (XS.assign rfl) ?_
          refine AO.nil ?_
          refine AW.seq ?_
          refine AW.region ?_
          refine AO.xs rfl rfl rfl (XS.move rfl) ?_
          refine AO.xs rfl rfl rfl (XS.move rfl) ?_
          refine AO.xs rfl rfl rfl (XS.ext rfl rfl (run_add64N ext_add (k := 0) (by decide)) rfl rfl) ?_
          refine AO.xs rfl rfl rfl (XS.move rfl) ?_
          refine AO.xs rfl rfl rfl (XS.extract rfl rfl) ?_
          refine AO.xs rfl rfl rfl (XS.extract rfl rfl) ?_
          refine AO.xs rfl rfl rfl (XS.assign rfl) ?_
          refine AO.xs rfl rfl rfl (XS.assign rfl) ?_
          refine AO.nil ?_
          refine AW.seq ?_
          refine AW.seq ?_
          refine AW.region ?_
          refine AO.xs rfl rfl rfl (XS.move rfl) ?_
          refine AO.xs rfl rfl rfl (XS.int rfl rfl rfl) ?_
          refine AO.nil ?_
          refine AW.cond rfl (fun hb6 => ?_) (fun hb6 => ?_)
          · skip
            replace hb6 := eq_of_beq hb6
            refine AW.seq ?_
            refine AW.region ?_
            refine AO.xs rfl rfl rfl (XS.move rfl) ?_
            refine AO.xs rfl rfl rfl (XS.assign rfl) ?_
            refine AO.nil ?_
            refine AW.ret ?_
            exact ⟨_, rfl, intEq (congrArg Nat.cast (dgt_full (b := 18446744073709551616) hv0 (by decide) hw (step_qr he hp) (by omega) (by omega) (Nat.le_sub_one_of_lt hdq)).symm)⟩
          · skip
            replace hb6 := ne_of_beq_false hb6
            refine AW.skip ?_
            refine AW.region ?_
            refine AO.xs rfl rfl rfl (XS.move rfl) ?_
            refine AO.xs rfl rfl rfl (XS.assign rfl) ?_
            refine AO.nil ?_
            exact ⟨(q - 1, r + v), ⟨step_qr he hp, by omega, by omega, Nat.le_sub_one_of_lt hdq⟩, (by dsimp only; omega), ⟨rfl, lk_D rfl (intEq (congrArg Nat.cast (show _ = r + v by omega))), trivial⟩, ⟨⟨_, rfl, rfl⟩, ⟨_, rfl, rfl⟩, ⟨_, rfl, rfl⟩, trivial⟩, rfl⟩
      · skip
        have hg4n := ne_of_beq_false hg4
        refine AO.gno rfl rfl rfl rfl rfl rfl hg4 (by decide) rfl ?_
        refine AO.gno rfl rfl rfl rfl rfl rfl hg4 (by decide) rfl ?_
        refine AO.gno rfl rfl rfl rfl rfl rfl hg4 (by decide) rfl ?_
        refine AO.gyes rfl rfl rfl rfl rfl rfl hg3 rfl (XS.pickF rfl rfl hg4) ?_
        refine AO.xs rfl rfl rfl (XS.pickF rfl rfl hg3) ?_
        refine AO.nil ?_
        refine AW.condF rfl rfl ?_
        refine AW.skip ?_
        refine AW.seq ?_
        have hdq : dgt 18446744073709551616 (x * 18446744073709551616 + y) z v w < q := dgt_lt (b := 18446744073709551616) hv0 (by decide) he (by omega)
        have hp : 0 < q := Nat.lt_of_le_of_lt (Nat.zero_le _) hdq
        refine AW.region ?_
        refine AO.xs rfl rfl rfl (XS.move rfl) ?_
        refine AO.xs rfl rfl rfl (XS.subU (n := 1) rfl rfl (by omega)) ?_
        refine AO.xs rfl rfl rfl (XS.assign rfl) ?_
        refine AO.nil ?_
        refine AW.seq ?_
        refine AW.region ?_
        refine AO.xs rfl rfl rfl (XS.move rfl) ?_
        refine AO.xs rfl rfl rfl (XS.move rfl) ?_
        refine AO.xs rfl rfl rfl (XS.ext rfl rfl (run_add64N ext_add (k := 0) (by decide)) rfl rfl) ?_
        refine AO.xs rfl rfl rfl (XS.move rfl) ?_
        refine AO.xs rfl rfl rfl (XS.extract rfl rfl) ?_
        refine AO.xs rfl rfl rfl (XS.extract rfl rfl) ?_
        refine AO.xs rfl rfl rfl (XS.assign rfl) ?_
        refine AO.xs rfl rfl rfl (XS.assign rfl) ?_
        refine AO.nil ?_
        refine AW.seq ?_
        refine AW.seq ?_
        refine AW.region ?_
        refine AO.xs rfl rfl rfl (XS.move rfl) ?_
        refine AO.xs rfl rfl rfl (XS.int rfl rfl rfl) ?_
        refine AO.nil ?_
        refine AW.cond rfl (fun hb7 => ?_) (fun hb7 => ?_)
        · skip
          replace hb7 := eq_of_beq hb7
          refine AW.seq ?_
          refine AW.region ?_
          refine AO.xs rfl rfl rfl (XS.move rfl) ?_
          refine AO.xs rfl rfl rfl (XS.assign rfl) ?_
          refine AO.nil ?_
          refine AW.ret ?_
          exact ⟨_, rfl, intEq (congrArg Nat.cast (dgt_full (b := 18446744073709551616) hv0 (by decide) hw (step_qr he hp) (by omega) (by omega) (Nat.le_sub_one_of_lt hdq)).symm)⟩
        · skip
          replace hb7 := ne_of_beq_false hb7
          refine AW.skip ?_
          refine AW.region ?_
          refine AO.xs rfl rfl rfl (XS.move rfl) ?_
          refine AO.xs rfl rfl rfl (XS.assign rfl) ?_
          refine AO.nil ?_
          exact ⟨(q - 1, r + v), ⟨step_qr he hp, by omega, by omega, Nat.le_sub_one_of_lt hdq⟩, (by dsimp only; omega), ⟨rfl, lk_D rfl (intEq (congrArg Nat.cast (show _ = r + v by omega))), trivial⟩, ⟨⟨_, rfl, rfl⟩, ⟨_, rfl, rfl⟩, ⟨_, rfl, rfl⟩, trivial⟩, rfl⟩

end Go.Proofs.Ytgafdhpagifpcaa.C
