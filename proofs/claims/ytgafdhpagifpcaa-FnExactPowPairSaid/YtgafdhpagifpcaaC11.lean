/-
  OWN WORK, printed by wip/tools/gen.py out of the translation and of the contracts in wip/specs.
-/
import Derived.Test.YtgafdhpagifpcaaC10
import Derived.Test.YtgafdhpagifpcaaN5
namespace Go.Proofs.Ytgafdhpagifpcaa.C
open Go Go.RowKit Go.Proofs.Ytgafdhpagifpcaa.Av Go.Proofs.Ytgafdhpagifpcaa.Ty Go.Proofs.Ytgafdhpagifpcaa.Num
set_option linter.unusedVariables false


theorem natD_zero : natD 0 = .sl [] := by unfold natD; rw [dg_zero]; rfl
theorem limD_zero : limD 0 = .sl [] := by unfold limD; rw [dg_zero]; rfl
theorem b_eqP {b : Bool} {p : Prop} (h : b = true ↔ p) : b = eqP p := by
  cases b
  · exact (eqP_no (fun hp => by have := h.2 hp; cases this)).symm
  · exact (eqP_yes (h.1 rfl)).symm
theorem size_pos {s : ByteArray} (h : s ≠ ⟨#[]⟩) : 0 < s.size := by
  rcases Nat.eq_zero_or_pos s.size with h0 | h0
  · exact absurd (ba_ext (by simp only [ByteArray.size] at h0; simp [List.eq_nil_of_length_eq_zero, h0])) h
  · exact h0
theorem great_one {s : ByteArray} (h1 : ((s.size : Nat) : Int) ≤ 160) (h2 : s ≠ ⟨#[]⟩) : ((((s.data.getD 0 0).toNat : Nat) : Int) != 0) = eqP (greatOk s) := by
  refine b_eqP ?_
  have hp : 0 < s.data.size := size_pos h2
  have hg : s.data.getD 0 0 = s.data[0] := by rw [Array.getD_eq_getD_getElem?, Array.getElem?_eq_getElem hp]; rfl
  rw [hg, bne_iff_ne]
  constructor
  · intro h
    exact ⟨by omega, fun _ e => h (by rw [e]; rfl)⟩
  · intro h e
    exact h.2 hp (UInt8.toNat_inj.1 (by simpa using e))
theorem great_nil {s : ByteArray} (h : s = ⟨#[]⟩) : greatOk s := by subst h; exact ⟨Nat.zero_le _, fun h => absurd h (by decide)⟩
theorem all_next {α : Type} {P : α → Prop} {xs : List α} {i : Nat} (hi : i < xs.length) (h : ∀ x ∈ xs.take i, P x) (hx : P xs[i]) : ∀ x ∈ xs.take (i + 1), P x := by
  intro x hm
  rw [List.take_succ_eq_append_getElem hi, List.mem_append] at hm
  rcases hm with hm | hm
  · exact h x hm
  · rw [List.mem_singleton.1 hm]; exact hx
theorem all_done {α : Type} {P : α → Prop} {xs : List α} {i : Nat} (hi : i = xs.length) (h : ∀ x ∈ xs.take i, P x) : ∀ x ∈ xs, P x := by
  subst hi; rwa [List.take_length] at h

set_option maxRecDepth 100000 in
theorem plus_c {a b : Nat} (ha : nl 18446744073709551616 a ≤ 1048576) (hb : nl 18446744073709551616 b ≤ 1048576) : AC Try.prog 149 [natD a, natD b] (fun d => d = natD (a + b)) := by
  refine AC.intro Try.func149 Try.ntmps149 Try.results149 rfl (by simp) (fun w0 T => ?_)
  refine AW.seq ?_
  refine AW.region ?_
  refine AO.xs rfl rfl rfl (XS.assign rfl) ?_
  refine AO.nil ?_
  refine AW.cutS [4] (fun (z : Nat × Nat) => [(0, .d (natD z.1)), (1, .d (natD z.2))]) (fun z => z.1 + z.2 = a + b ∧ nl 18446744073709551616 z.2 ≤ nl 18446744073709551616 z.1 ∧ nl 18446744073709551616 z.1 ≤ 1048576) ?_ ?_
  · skip
    refine AW.seq ?_
    refine AW.region ?_
    refine AO.xs rfl rfl rfl (XS.move rfl) ?_
    refine AO.xs rfl rfl rfl (XS.lenL rfl (el rfl)) ?_
    refine AO.xs rfl rfl rfl (XS.move rfl) ?_
    refine AO.xs rfl rfl rfl (XS.lenL rfl (el rfl)) ?_
    refine AO.xs rfl rfl rfl (XS.int rfl rfl rfl) ?_
    refine AO.nil ?_
    refine AW.cond rfl (fun hb1 => ?_) (fun hb1 => ?_)
    · skip
      replace hb1 := of_decide_eq_true hb1
      refine AW.region ?_
      refine AO.xs rfl rfl rfl (XS.move rfl) ?_
      refine AO.xs rfl rfl rfl (XS.move rfl) ?_
      refine AO.xs rfl rfl rfl (XS.assign rfl) ?_
      refine AO.xs rfl rfl rfl (XS.assign rfl) ?_
      refine AO.nil ?_
      exact ⟨(b, a), ⟨Nat.add_comm _ _, by dsimp only; omega, hb⟩, ⟨rfl, rfl, trivial⟩, ⟨⟨_, rfl, rfl⟩, trivial⟩, rfl⟩
    · skip
      replace hb1 := of_decide_eq_false hb1
      refine AW.skip ?_
      exact ⟨(a, b), ⟨rfl, by dsimp only; omega, ha⟩, ⟨rfl, rfl, trivial⟩, ⟨⟨_, rfl, rfl⟩, trivial⟩, rfl⟩
  · skip
    intro ⟨m, n⟩ ⟨hs, hmn, hm⟩
    dsimp only at hs hmn hm
    refine AW.tell 0 (b := natD m) rfl rfl ?_
    refine AW.tell 1 (b := natD n) rfl rfl ?_
    refine AW.seq ?_
    refine AW.region ?_
    refine AO.xs rfl rfl rfl (XS.move rfl) ?_
    refine AO.xs rfl rfl rfl (XS.lenL rfl (el rfl)) ?_
    refine AO.xs rfl rfl rfl (XS.addN (n := 1) rfl rfl (by omega)) ?_
    refine AO.makeC (18446744073709551616) rfl rfl rfl rfl (ap rfl) (Nat.le_refl _) (by omega) ?_
    refine AO.xs rfl rfl rfl (XS.assign rfl) ?_
    refine AO.xs rfl rfl rfl (XS.assign rfl) ?_
    refine AO.nil ?_
    refine AW.seq ?_
    refine AW.seq ?_
    refine AW.region ?_
    refine AO.xs rfl rfl rfl (XS.move rfl) ?_
    refine AO.xs rfl rfl rfl (XS.lenL rfl (el rfl)) ?_
    refine AO.xs rfl rfl rfl (XS.move rfl) ?_
    refine AO.nil ?_
    refine AW.block ?_
    refine AW.loop [0, 1, 4, 5, 21] (fun i => [(6, .d (.im (.int .u64 ((carry 18446744073709551616 m n i : Nat) : Int)))), (22, .d (intD ((i : Nat) : Int)))]) (fun i => [nkD .u64 (fx 18446744073709551616 (nl 18446744073709551616 m + 1) (low 18446744073709551616 m n i))]) (fun i => i ≤ nl 18446744073709551616 m) (fun i => nl 18446744073709551616 m - i) (0) (Nat.zero_le _) ⟨lk_D rfl (by rw [carry_zero]; rfl), rfl, trivial⟩ ⟨⟨_, rfl, rfl⟩, ⟨_, rfl, rfl⟩, ⟨_, rfl, rfl⟩, ⟨_, rfl, rfl⟩, ⟨_, rfl, rfl⟩, trivial⟩ (congrArg (fun z => [nkD .u64 (fx _ _ z)]) low_zero.symm) ?_
    intro i hi
    refine AW.seq ?_
    refine AW.region ?_
    refine AO.xs rfl rfl rfl (XS.int rfl rfl rfl) ?_
    refine AO.nil ?_
    refine AW.seq ?_
    refine AW.cond rfl (fun hb2 => ?_) (fun hb2 => ?_)
    · skip
      replace hb2 := of_decide_eq_true hb2
      refine AW.skip ?_
      refine AW.seq ?_
      refine AW.block ?_
      refine AW.seq ?_
      refine AW.region ?_
      refine AO.xs rfl rfl rfl (XS.move rfl) ?_
      refine AO.xs rfl rfl rfl (XS.assign rfl) ?_
      refine AO.nil ?_
      refine AW.seq ?_
      refine AW.region ?_
      refine AO.xs rfl rfl rfl (XS.assign rfl) ?_
      refine AO.nil ?_
      refine AW.cutS [0, 1, 4, 5, 6, 7, 21, 22, 23, 24] (fun (_ : Unit) => [(8, .d (.im (.int .u64 ((n / 18446744073709551616 ^ i % 18446744073709551616 : Nat) : Int))))]) (fun _ => True) ?_ ?_
      · skip
        refine AW.seq ?_
        refine AW.region ?_
        refine AO.xs rfl rfl rfl (XS.move rfl) ?_
        refine AO.xs rfl rfl rfl (XS.move rfl) ?_
        refine AO.xs rfl rfl rfl (XS.lenL rfl (el rfl)) ?_
        refine AO.xs rfl rfl rfl (XS.int rfl rfl rfl) ?_
        refine AO.nil ?_
        refine AW.cond rfl (fun hb3 => ?_) (fun hb3 => ?_)
        · skip
          replace hb3 := of_decide_eq_true hb3
          refine AW.region ?_
          refine AO.xs rfl rfl rfl (XS.move rfl) ?_
          refine AO.xs rfl rfl rfl (XS.move rfl) ?_
          refine AO.xs rfl rfl rfl (XS.indexL rfl rfl (el rfl) (by omega)) ?_
          refine AO.xs rfl rfl rfl (XS.loadE rfl (on rfl) rfl) ?_
          refine AO.xs rfl rfl rfl (XS.assign rfl) ?_
          refine AO.nil ?_
          exact ⟨(), trivial, ⟨lk_D rfl (by first | (rw [digit_out (by decide) (by omega)]; rfl) | rfl), trivial⟩, ⟨⟨_, rfl, rfl⟩, ⟨_, rfl, rfl⟩, ⟨_, rfl, rfl⟩, ⟨_, rfl, rfl⟩, ⟨_, rfl, rfl⟩, ⟨_, rfl, rfl⟩, ⟨_, rfl, rfl⟩, ⟨_, rfl, rfl⟩, ⟨_, rfl, rfl⟩, ⟨_, rfl, rfl⟩, trivial⟩, rfl⟩
        · skip
          replace hb3 := of_decide_eq_false hb3
          refine AW.skip ?_
          exact ⟨(), trivial, ⟨lk_D rfl (by first | (rw [digit_out (by decide) (by omega)]; rfl) | rfl), trivial⟩, ⟨⟨_, rfl, rfl⟩, ⟨_, rfl, rfl⟩, ⟨_, rfl, rfl⟩, ⟨_, rfl, rfl⟩, ⟨_, rfl, rfl⟩, ⟨_, rfl, rfl⟩, ⟨_, rfl, rfl⟩, ⟨_, rfl, rfl⟩, ⟨_, rfl, rfl⟩, ⟨_, rfl, rfl⟩, trivial⟩, rfl⟩
      · skip
        intro _ _
        refine AW.region ?_
        refine AO.xs rfl rfl rfl (XS.move rfl) ?_
        refine AO.xs rfl rfl rfl (XS.move rfl) ?_
        refine AO.xs rfl rfl rfl (XS.move rfl) ?_
        refine AO.xs rfl rfl rfl (XS.move rfl) ?_
        refine AO.xs rfl rfl rfl (XS.indexL rfl rfl (el rfl) (by omega)) ?_
        refine AO.xs rfl rfl rfl (XS.loadE rfl (on rfl) rfl) ?_
        refine AO.xs rfl rfl rfl (XS.move rfl) ?_
        refine AO.xs rfl rfl rfl (XS.move rfl) ?_
        refine AO.xs rfl rfl rfl (XS.ext rfl rfl (run_add64N ext_add (carry_le (by decide))) rfl rfl) ?_
        refine AO.xs rfl rfl rfl (XS.move rfl) ?_
        refine AO.xs rfl rfl rfl (XS.extract rfl rfl) ?_
        refine AO.xs rfl rfl rfl (XS.extract rfl rfl) ?_
        refine AO.xs rfl rfl rfl (XS.indexR1 rfl rfl (el rfl) (by omega)) ?_
        refine AO.storeL rfl rfl rfl (sz rfl) rfl (by omega) (plus_set (by decide) (by omega)) rfl ?_
        refine AO.xs rfl rfl rfl (XS.assign rfl) ?_
        refine AO.nil ?_
        refine AW.region ?_
        refine AO.xs rfl rfl rfl (XS.addN (n := 1) rfl rfl (by omega)) ?_
        refine AO.xs rfl rfl rfl (XS.move rfl) ?_
        refine AO.nil ?_
        exact ⟨i + 1, (by omega), (by dsimp only; omega), ⟨lk_D rfl (by rw [plus_carry (by decide)]), rfl, trivial⟩, ⟨⟨_, rfl, rfl⟩, ⟨_, rfl, rfl⟩, ⟨_, rfl, rfl⟩, ⟨_, rfl, rfl⟩, ⟨_, rfl, rfl⟩, trivial⟩, rfl⟩
    · skip
      replace hb2 := of_decide_eq_false hb2
      obtain rfl : i = nl 18446744073709551616 m := by omega
      have hm2 := lt_nl (b := 18446744073709551616) (by decide) m
      have hn2 := (nl_le (b := 18446744073709551616) (by decide)).1 hmn
      refine AW.exit ?_
      refine AW.seq ?_
      refine AW.region ?_
      refine AO.xs rfl rfl rfl (XS.move rfl) ?_
      refine AO.xs rfl rfl rfl (XS.move rfl) ?_
      refine AO.xs rfl rfl rfl (XS.lenL rfl (el rfl)) ?_
      refine AO.xs rfl rfl rfl (XS.move rfl) ?_
      refine AO.xs rfl rfl rfl (XS.indexR1 rfl rfl (el rfl) (by omega)) ?_
      refine AO.storeL rfl rfl rfl (sz rfl) rfl (by omega) (plus_top (by decide) hm2 hn2 (by omega)) rfl ?_
      refine AO.nil ?_
      refine AW.seq ?_
      refine AW.region ?_
      refine AO.xs rfl rfl rfl (XS.move rfl) ?_
      refine AO.freezeL 52 rfl (Nat.zero_le _) rfl (fx_len _ _ _).symm ?_
      refine AO.xs rfl rfl rfl (XS.call rfl (by kernel_rfl) rfl (trim_c (by omega) (plus_lt (by decide) (Nat.le_refl _) hmn))) ?_
      refine AO.xs rfl rfl rfl (XS.assign rfl) ?_
      refine AO.nil ?_
      refine AW.ret ?_
      exact ⟨_, rfl, congrArg natD hs⟩

set_option maxRecDepth 100000 in
theorem less_c {a b : Nat} (ha : nl 18446744073709551616 a ≤ 1048576) (hb : nl 18446744073709551616 b ≤ 1048576) (h : b ≤ a) : AC Try.prog 150 [natD a, natD b] (fun d => d = natD (a - b)) := by
  refine AC.intro Try.func150 Try.ntmps150 Try.results150 rfl (by simp) (fun w0 T => ?_)
  refine AW.seq ?_
  refine AW.region ?_
  refine AO.xs rfl rfl rfl (XS.assign rfl) ?_
  refine AO.nil ?_
  refine AW.seq ?_
  refine AW.region ?_
  refine AO.xs rfl rfl rfl (XS.move rfl) ?_
  refine AO.xs rfl rfl rfl (XS.lenL rfl (el rfl)) ?_
  refine AO.makeC (18446744073709551616) rfl rfl rfl rfl (ap rfl) (Nat.le_refl _) (by omega) ?_
  refine AO.xs rfl rfl rfl (XS.assign rfl) ?_
  refine AO.xs rfl rfl rfl (XS.assign rfl) ?_
  refine AO.nil ?_
  refine AW.seq ?_
  refine AW.seq ?_
  refine AW.region ?_
  refine AO.xs rfl rfl rfl (XS.move rfl) ?_
  refine AO.xs rfl rfl rfl (XS.lenL rfl (el rfl)) ?_
  refine AO.xs rfl rfl rfl (XS.move rfl) ?_
  refine AO.nil ?_
  refine AW.block ?_
  refine AW.loop [0, 1, 4, 5, 13] (fun i => [(6, .d (.im (.int .u64 ((bor 18446744073709551616 a b i : Nat) : Int)))), (14, .d (intD ((i : Nat) : Int)))]) (fun i => [nkD .u64 (fx 18446744073709551616 (nl 18446744073709551616 a) (dif 18446744073709551616 a b i))]) (fun i => i ≤ nl 18446744073709551616 a) (fun i => nl 18446744073709551616 a - i) (0) (Nat.zero_le _) ⟨lk_D rfl (by rw [bor_zero]; rfl), rfl, trivial⟩ ⟨⟨_, rfl, rfl⟩, ⟨_, rfl, rfl⟩, ⟨_, rfl, rfl⟩, ⟨_, rfl, rfl⟩, ⟨_, rfl, rfl⟩, trivial⟩ (congrArg (fun z => [nkD .u64 (fx _ _ z)]) dif_zero.symm) ?_
  intro i hi
  refine AW.seq ?_
  refine AW.region ?_
  refine AO.xs rfl rfl rfl (XS.int rfl rfl rfl) ?_
  refine AO.nil ?_
  refine AW.seq ?_
  refine AW.cond rfl (fun hb1 => ?_) (fun hb1 => ?_)
  · skip
    replace hb1 := of_decide_eq_true hb1
    refine AW.skip ?_
    refine AW.seq ?_
    refine AW.block ?_
    refine AW.seq ?_
    refine AW.region ?_
    refine AO.xs rfl rfl rfl (XS.move rfl) ?_
    refine AO.xs rfl rfl rfl (XS.assign rfl) ?_
    refine AO.nil ?_
    refine AW.seq ?_
    refine AW.region ?_
    refine AO.xs rfl rfl rfl (XS.assign rfl) ?_
    refine AO.nil ?_
    refine AW.cutS [0, 1, 4, 5, 6, 7, 13, 14, 15, 16] (fun (_ : Unit) => [(8, .d (.im (.int .u64 ((b / 18446744073709551616 ^ i % 18446744073709551616 : Nat) : Int))))]) (fun _ => True) ?_ ?_
    · skip
      refine AW.seq ?_
      refine AW.region ?_
      refine AO.xs rfl rfl rfl (XS.move rfl) ?_
      refine AO.xs rfl rfl rfl (XS.move rfl) ?_
      refine AO.xs rfl rfl rfl (XS.lenL rfl (el rfl)) ?_
      refine AO.xs rfl rfl rfl (XS.int rfl rfl rfl) ?_
      refine AO.nil ?_
      refine AW.cond rfl (fun hb2 => ?_) (fun hb2 => ?_)
      · skip
        replace hb2 := of_decide_eq_true hb2
        refine AW.region ?_
        refine AO.xs rfl rfl rfl (XS.move rfl) ?_
        refine AO.xs rfl rfl rfl (XS.move rfl) ?_
        refine AO.xs rfl rfl rfl (XS.indexL rfl rfl (el rfl) (by omega)) ?_
        refine AO.xs rfl rfl rfl (XS.loadE rfl (on rfl) rfl) ?_
        refine AO.xs rfl rfl rfl (XS.assign rfl) ?_
        refine AO.nil ?_
        exact ⟨(), trivial, ⟨lk_D rfl (by first | (rw [digit_out (by decide) (by omega)]; rfl) | rfl), trivial⟩, ⟨⟨_, rfl, rfl⟩, ⟨_, rfl, rfl⟩, ⟨_, rfl, rfl⟩, ⟨_, rfl, rfl⟩, ⟨_, rfl, rfl⟩, ⟨_, rfl, rfl⟩, ⟨_, rfl, rfl⟩, ⟨_, rfl, rfl⟩, ⟨_, rfl, rfl⟩, ⟨_, rfl, rfl⟩, trivial⟩, rfl⟩
      · skip
        replace hb2 := of_decide_eq_false hb2
        refine AW.skip ?_
        exact ⟨(), trivial, ⟨lk_D rfl (by first | (rw [digit_out (by decide) (by omega)]; rfl) | rfl), trivial⟩, ⟨⟨_, rfl, rfl⟩, ⟨_, rfl, rfl⟩, ⟨_, rfl, rfl⟩, ⟨_, rfl, rfl⟩, ⟨_, rfl, rfl⟩, ⟨_, rfl, rfl⟩, ⟨_, rfl, rfl⟩, ⟨_, rfl, rfl⟩, ⟨_, rfl, rfl⟩, ⟨_, rfl, rfl⟩, trivial⟩, rfl⟩
    · skip
      intro _ _
      refine AW.region ?_
      refine AO.xs rfl rfl rfl (XS.move rfl) ?_
      refine AO.xs rfl rfl rfl (XS.move rfl) ?_
      refine AO.xs rfl rfl rfl (XS.move rfl) ?_
      refine AO.xs rfl rfl rfl (XS.move rfl) ?_
      refine AO.xs rfl rfl rfl (XS.indexL rfl rfl (el rfl) (by omega)) ?_
      refine AO.xs rfl rfl rfl (XS.loadE rfl (on rfl) rfl) ?_
      refine AO.xs rfl rfl rfl (XS.move rfl) ?_
      refine AO.xs rfl rfl rfl (XS.move rfl) ?_
      refine AO.xs rfl rfl rfl (XS.ext rfl rfl (run_sub64N ext_sub bor_le) rfl rfl) ?_
      refine AO.xs rfl rfl rfl (XS.move rfl) ?_
      refine AO.xs rfl rfl rfl (XS.extract rfl rfl) ?_
      refine AO.xs rfl rfl rfl (XS.extract rfl rfl) ?_
      refine AO.xs rfl rfl rfl (XS.indexR1 rfl rfl (el rfl) (by omega)) ?_
      refine AO.storeL rfl rfl rfl (sz rfl) rfl (by omega) (less_set (by decide) (by omega)) rfl ?_
      refine AO.xs rfl rfl rfl (XS.assign rfl) ?_
      refine AO.nil ?_
      refine AW.region ?_
      refine AO.xs rfl rfl rfl (XS.addN (n := 1) rfl rfl (by omega)) ?_
      refine AO.xs rfl rfl rfl (XS.move rfl) ?_
      refine AO.nil ?_
      exact ⟨i + 1, (by omega), (by dsimp only; omega), ⟨lk_D rfl (by rw [less_bor (by decide)]), rfl, trivial⟩, ⟨⟨_, rfl, rfl⟩, ⟨_, rfl, rfl⟩, ⟨_, rfl, rfl⟩, ⟨_, rfl, rfl⟩, ⟨_, rfl, rfl⟩, trivial⟩, rfl⟩
  · skip
    replace hb1 := of_decide_eq_false hb1
    obtain rfl : i = nl 18446744073709551616 a := by omega
    refine AW.exit ?_
    refine AW.seq ?_
    refine AW.region ?_
    refine AO.xs rfl rfl rfl (XS.move rfl) ?_
    refine AO.freezeL 39 rfl (Nat.zero_le _) rfl (fx_len _ _ _).symm ?_
    refine AO.xs rfl rfl rfl (XS.call rfl (by kernel_rfl) rfl (trim_c (by omega) (dif_eq (by decide)).2)) ?_
    refine AO.xs rfl rfl rfl (XS.assign rfl) ?_
    refine AO.nil ?_
    refine AW.ret ?_
    exact ⟨_, rfl, congrArg natD (less_all (lt_nl (by decide) a) h)⟩


theorem sgN_lo {m n : Nat} (h : m < n) : (-1 : Int) = sgN m n := by unfold sgN; rw [if_pos h]
theorem sgN_hi {m n : Nat} (h : n < m) : (1 : Int) = sgN m n := by unfold sgN; rw [if_neg (by omega), if_pos h]
theorem sgN_no {m n : Nat} (h : m = n) : (0 : Int) = sgN m n := by unfold sgN; rw [if_neg (by omega), if_neg (by omega)]
theorem cmpN_of {b m n : Nat} {r : Int} (h : nl b m = nl b n) (hr : r = sgN m n) : r = cmpN b m n := by unfold cmpN; rw [if_pos h, hr]
theorem pow0 {b m n : Nat} (h : m / b ^ 0 = n / b ^ 0) : m = n := by simpa using h

set_option maxRecDepth 100000 in
theorem cmp_c {a b : Nat} (ha : nl 18446744073709551616 a ≤ 1048576) (hb : nl 18446744073709551616 b ≤ 1048576) : AC Try.prog 138 [natD a, natD b] (fun d => d = intD (cmpN 18446744073709551616 a b)) := by
  refine AC.intro Try.func138 Try.ntmps138 Try.results138 rfl (by simp) (fun w0 T => ?_)
  refine AW.seq ?_
  refine AW.region ?_
  refine AO.xs rfl rfl rfl (XS.assign rfl) ?_
  refine AO.nil ?_
  refine AW.seq ?_
  refine AW.seq ?_
  refine AW.region ?_
  refine AO.xs rfl rfl rfl (XS.move rfl) ?_
  refine AO.xs rfl rfl rfl (XS.lenL rfl (el rfl)) ?_
  refine AO.xs rfl rfl rfl (XS.move rfl) ?_
  refine AO.xs rfl rfl rfl (XS.lenL rfl (el rfl)) ?_
  refine AO.xs rfl rfl rfl (XS.int rfl rfl rfl) ?_
  refine AO.nil ?_
  refine AW.cond rfl (fun hb1 => ?_) (fun hb1 => ?_)
  · skip
    replace hb1 := bne_iff_ne.1 hb1
    refine AW.seq ?_
    refine AW.region ?_
    refine AO.xs rfl rfl rfl (XS.move rfl) ?_
    refine AO.xs rfl rfl rfl (XS.lenL rfl (el rfl)) ?_
    refine AO.xs rfl rfl rfl (XS.move rfl) ?_
    refine AO.xs rfl rfl rfl (XS.lenL rfl (el rfl)) ?_
    refine AO.xs rfl rfl rfl (XS.subI rfl rfl (by omega)) ?_
    refine AO.xs rfl rfl rfl (XS.assign rfl) ?_
    refine AO.nil ?_
    refine AW.ret ?_
    exact ⟨_, rfl, intEq (by unfold cmpN; rw [if_neg (by omega)])⟩
  · skip
    replace hb1 := bne_eq_false_iff_eq.1 hb1
    refine AW.skip ?_
    refine AW.seq ?_
    refine AW.seq ?_
    refine AW.region ?_
    refine AO.xs rfl rfl rfl (XS.move rfl) ?_
    refine AO.xs rfl rfl rfl (XS.lenL rfl (el rfl)) ?_
    refine AO.xs rfl rfl rfl (XS.subI rfl rfl (by omega)) ?_
    refine AO.xs rfl rfl rfl (XS.assign rfl) ?_
    refine AO.nil ?_
    refine AW.block ?_
    refine AW.loop [0, 1] (fun j => [(5, .d (intD (((j : Nat) : Int) - 1)))]) (fun _ => _) (fun j => j ≤ nl 18446744073709551616 a ∧ a / 18446744073709551616 ^ j = b / 18446744073709551616 ^ j) (fun j => j) (nl 18446744073709551616 a) ⟨Nat.le_refl _, div_eq_top (by decide) (by omega)⟩ ⟨rfl, trivial⟩ ⟨⟨_, rfl, rfl⟩, ⟨_, rfl, rfl⟩, trivial⟩ rfl ?_
    intro j ⟨hj, hq⟩
    refine AW.seq ?_
    refine AW.seq ?_
    refine AW.region ?_
    refine AO.xs rfl rfl rfl (XS.move rfl) ?_
    refine AO.xs rfl rfl rfl (XS.int rfl rfl rfl) ?_
    refine AO.nil ?_
    refine AW.cond rfl (fun hb2 => ?_) (fun hb2 => ?_)
    · skip
      replace hb2 := of_decide_eq_true hb2
      obtain ⟨i, rfl⟩ : ∃ i, j = i + 1 := ⟨j - 1, by omega⟩
      refine AW.tell 5 rfl (intEq (show ((i + 1 : Nat) : Int) - 1 = ((i : Nat) : Int) by omega)) ?_
      refine AW.skip ?_
      refine AW.seq ?_
      refine AW.block ?_
      refine AW.seq ?_
      refine AW.drawn mix ?_
      refine DC.cons rfl rfl rfl (XS.move rfl) ?_
      refine DC.cons rfl rfl rfl (XS.move rfl) ?_
      refine DC.cons rfl rfl rfl (XS.indexL rfl rfl (el rfl) (by omega)) ?_
      refine DC.cons rfl rfl rfl (XS.loadE rfl (on rfl) rfl) ?_
      refine DC.cons rfl rfl rfl (XS.move rfl) ?_
      refine DC.cons rfl rfl rfl (XS.move rfl) ?_
      refine DC.cons rfl rfl rfl (XS.indexL rfl rfl (el rfl) (by omega)) ?_
      refine DC.cons rfl rfl rfl (XS.loadE rfl (on rfl) rfl) ?_
      refine DC.cons rfl rfl rfl (XS.int rfl rfl rfl) ?_
      refine DC.done (by kernel_rfl) ?_
      refine AO.nil ?_
      refine AW.cond rfl (fun hb3 => ?_) (fun hb3 => ?_)
      · skip
        replace hb3 := bne_iff_ne.1 hb3
        refine AW.seq ?_
        refine AW.seq ?_
        refine AW.drawn mix ?_
        refine DC.cons rfl rfl rfl (XS.move rfl) ?_
        refine DC.cons rfl rfl rfl (XS.move rfl) ?_
        refine DC.cons rfl rfl rfl (XS.indexL rfl rfl (el rfl) (by omega)) ?_
        refine DC.cons rfl rfl rfl (XS.loadE rfl (on rfl) rfl) ?_
        refine DC.cons rfl rfl rfl (XS.move rfl) ?_
        refine DC.cons rfl rfl rfl (XS.move rfl) ?_
        refine DC.cons rfl rfl rfl (XS.indexL rfl rfl (el rfl) (by omega)) ?_
        refine DC.cons rfl rfl rfl (XS.loadE rfl (on rfl) rfl) ?_
        refine DC.cons rfl rfl rfl (XS.int rfl rfl rfl) ?_
        refine DC.done (by kernel_rfl) ?_
        refine AO.nil ?_
        refine AW.cond rfl (fun hb4 => ?_) (fun hb4 => ?_)
        · skip
          replace hb4 := of_decide_eq_true hb4
          refine AW.seq ?_
          refine AW.region ?_
          refine AO.xs rfl rfl rfl (XS.assign rfl) ?_
          refine AO.nil ?_
          refine AW.ret ?_
          exact ⟨_, rfl, intEq (cmpN_of (by omega) (sgN_lo ((cmp_dig (by decide) hq).2 (by omega))))⟩
        · skip
          replace hb4 := of_decide_eq_false hb4
          refine AW.skip ?_
          refine AW.seq ?_
          refine AW.region ?_
          refine AO.xs rfl rfl rfl (XS.assign rfl) ?_
          refine AO.nil ?_
          refine AW.ret ?_
          exact ⟨_, rfl, intEq (cmpN_of (by omega) (sgN_hi ((cmp_dig (by decide) hq.symm).2 (by omega))))⟩
      · skip
        replace hb3 := bne_eq_false_iff_eq.1 hb3
        refine AW.skip ?_
        refine AW.region ?_
        refine AO.xs rfl rfl rfl (XS.move rfl) ?_
        refine AO.xs rfl rfl rfl (XS.subI rfl rfl (by omega)) ?_
        refine AO.xs rfl rfl rfl (XS.assign rfl) ?_
        refine AO.nil ?_
        exact ⟨i, ⟨by omega, (cmp_dig (by decide) hq).1 (by omega)⟩, (by dsimp only; omega), ⟨rfl, trivial⟩, ⟨⟨_, rfl, rfl⟩, ⟨_, rfl, rfl⟩, trivial⟩, rfl⟩
    · skip
      replace hb2 := of_decide_eq_false hb2
      obtain rfl : j = 0 := by omega
      refine AW.exit ?_
      refine AW.seq ?_
      refine AW.region ?_
      refine AO.xs rfl rfl rfl (XS.assign rfl) ?_
      refine AO.nil ?_
      refine AW.ret ?_
      exact ⟨_, rfl, intEq (cmpN_of (by omega) (sgN_no (pow0 hq)))⟩

set_option maxRecDepth 100000 in
theorem l02Cmp_c {a b : Nat} (ha : nl 16777216 a ≤ 1048576) (hb : nl 16777216 b ≤ 1048576) : AC Try.prog 137 [limD a, limD b] (fun d => d = intD (sgN a b)) := by
  refine AC.intro Try.func137 Try.ntmps137 Try.results137 rfl (by simp) (fun w0 T => ?_)
  refine AW.seq ?_
  refine AW.region ?_
  refine AO.xs rfl rfl rfl (XS.assign rfl) ?_
  refine AO.nil ?_
  refine AW.seq ?_
  refine AW.seq ?_
  refine AW.region ?_
  refine AO.xs rfl rfl rfl (XS.move rfl) ?_
  refine AO.xs rfl rfl rfl (XS.lenL rfl (el rfl)) ?_
  refine AO.xs rfl rfl rfl (XS.move rfl) ?_
  refine AO.xs rfl rfl rfl (XS.lenL rfl (el rfl)) ?_
  refine AO.xs rfl rfl rfl (XS.int rfl rfl rfl) ?_
  refine AO.nil ?_
  refine AW.cond rfl (fun hb1 => ?_) (fun hb1 => ?_)
  · skip
    replace hb1 := bne_iff_ne.1 hb1
    refine AW.seq ?_
    refine AW.seq ?_
    refine AW.region ?_
    refine AO.xs rfl rfl rfl (XS.move rfl) ?_
    refine AO.xs rfl rfl rfl (XS.lenL rfl (el rfl)) ?_
    refine AO.xs rfl rfl rfl (XS.move rfl) ?_
    refine AO.xs rfl rfl rfl (XS.lenL rfl (el rfl)) ?_
    refine AO.xs rfl rfl rfl (XS.int rfl rfl rfl) ?_
    refine AO.nil ?_
    refine AW.cond rfl (fun hb2 => ?_) (fun hb2 => ?_)
    · skip
      replace hb2 := of_decide_eq_true hb2
      refine AW.seq ?_
      refine AW.region ?_
      refine AO.xs rfl rfl rfl (XS.assign rfl) ?_
      refine AO.nil ?_
      refine AW.ret ?_
      exact ⟨_, rfl, intEq (sgN_lo (lt_of_nl (b := 16777216) (by decide) (by omega)))⟩
    · skip
      replace hb2 := of_decide_eq_false hb2
      refine AW.skip ?_
      refine AW.seq ?_
      refine AW.region ?_
      refine AO.xs rfl rfl rfl (XS.assign rfl) ?_
      refine AO.nil ?_
      refine AW.ret ?_
      exact ⟨_, rfl, intEq (sgN_hi (lt_of_nl (b := 16777216) (by decide) (by omega)))⟩
  · skip
    replace hb1 := bne_eq_false_iff_eq.1 hb1
    refine AW.skip ?_
    refine AW.seq ?_
    refine AW.seq ?_
    refine AW.region ?_
    refine AO.xs rfl rfl rfl (XS.move rfl) ?_
    refine AO.xs rfl rfl rfl (XS.lenL rfl (el rfl)) ?_
    refine AO.xs rfl rfl rfl (XS.subI rfl rfl (by omega)) ?_
    refine AO.xs rfl rfl rfl (XS.assign rfl) ?_
    refine AO.nil ?_
    refine AW.block ?_
    refine AW.loop [0, 1] (fun j => [(5, .d (intD (((j : Nat) : Int) - 1)))]) (fun _ => _) (fun j => j ≤ nl 16777216 a ∧ a / 16777216 ^ j = b / 16777216 ^ j) (fun j => j) (nl 16777216 a) ⟨Nat.le_refl _, div_eq_top (by decide) (by omega)⟩ ⟨rfl, trivial⟩ ⟨⟨_, rfl, rfl⟩, ⟨_, rfl, rfl⟩, trivial⟩ rfl ?_
    intro j ⟨hj, hq⟩
    refine AW.seq ?_
    refine AW.seq ?_
    refine AW.region ?_
    refine AO.xs rfl rfl rfl (XS.move rfl) ?_
    refine AO.xs rfl rfl rfl (XS.int rfl rfl rfl) ?_
    refine AO.nil ?_
    refine AW.cond rfl (fun hb3 => ?_) (fun hb3 => ?_)
    · skip
      replace hb3 := of_decide_eq_true hb3
      obtain ⟨i, rfl⟩ : ∃ i, j = i + 1 := ⟨j - 1, by omega⟩
      refine AW.tell 5 rfl (intEq (show ((i + 1 : Nat) : Int) - 1 = ((i : Nat) : Int) by omega)) ?_
      refine AW.skip ?_
      refine AW.seq ?_
      refine AW.block ?_
      refine AW.seq ?_
      refine AW.drawn mix ?_
      refine DC.cons rfl rfl rfl (XS.move rfl) ?_
      refine DC.cons rfl rfl rfl (XS.move rfl) ?_
      refine DC.cons rfl rfl rfl (XS.indexL rfl rfl (el rfl) (by omega)) ?_
      refine DC.cons rfl rfl rfl (XS.loadE rfl (on rfl) rfl) ?_
      refine DC.cons rfl rfl rfl (XS.move rfl) ?_
      refine DC.cons rfl rfl rfl (XS.move rfl) ?_
      refine DC.cons rfl rfl rfl (XS.indexL rfl rfl (el rfl) (by omega)) ?_
      refine DC.cons rfl rfl rfl (XS.loadE rfl (on rfl) rfl) ?_
      refine DC.cons rfl rfl rfl (XS.int rfl rfl rfl) ?_
      refine DC.done (by kernel_rfl) ?_
      refine AO.nil ?_
      refine AW.cond rfl (fun hb4 => ?_) (fun hb4 => ?_)
      · skip
        replace hb4 := bne_iff_ne.1 hb4
        refine AW.seq ?_
        refine AW.seq ?_
        refine AW.drawn mix ?_
        refine DC.cons rfl rfl rfl (XS.move rfl) ?_
        refine DC.cons rfl rfl rfl (XS.move rfl) ?_
        refine DC.cons rfl rfl rfl (XS.indexL rfl rfl (el rfl) (by omega)) ?_
        refine DC.cons rfl rfl rfl (XS.loadE rfl (on rfl) rfl) ?_
        refine DC.cons rfl rfl rfl (XS.move rfl) ?_
        refine DC.cons rfl rfl rfl (XS.move rfl) ?_
        refine DC.cons rfl rfl rfl (XS.indexL rfl rfl (el rfl) (by omega)) ?_
        refine DC.cons rfl rfl rfl (XS.loadE rfl (on rfl) rfl) ?_
        refine DC.cons rfl rfl rfl (XS.int rfl rfl rfl) ?_
        refine DC.done (by kernel_rfl) ?_
        refine AO.nil ?_
        refine AW.cond rfl (fun hb5 => ?_) (fun hb5 => ?_)
        · skip
          replace hb5 := of_decide_eq_true hb5
          refine AW.seq ?_
          refine AW.region ?_
          refine AO.xs rfl rfl rfl (XS.assign rfl) ?_
          refine AO.nil ?_
          refine AW.ret ?_
          exact ⟨_, rfl, intEq (sgN_lo ((cmp_dig (by decide) hq).2 (by omega)))⟩
        · skip
          replace hb5 := of_decide_eq_false hb5
          refine AW.skip ?_
          refine AW.seq ?_
          refine AW.region ?_
          refine AO.xs rfl rfl rfl (XS.assign rfl) ?_
          refine AO.nil ?_
          refine AW.ret ?_
          exact ⟨_, rfl, intEq (sgN_hi ((cmp_dig (by decide) hq.symm).2 (by omega)))⟩
      · skip
        replace hb4 := bne_eq_false_iff_eq.1 hb4
        refine AW.skip ?_
        refine AW.region ?_
        refine AO.xs rfl rfl rfl (XS.move rfl) ?_
        refine AO.xs rfl rfl rfl (XS.subI rfl rfl (by omega)) ?_
        refine AO.xs rfl rfl rfl (XS.assign rfl) ?_
        refine AO.nil ?_
        exact ⟨i, ⟨by omega, (cmp_dig (by decide) hq).1 (by omega)⟩, (by dsimp only; omega), ⟨rfl, trivial⟩, ⟨⟨_, rfl, rfl⟩, ⟨_, rfl, rfl⟩, trivial⟩, rfl⟩
    · skip
      replace hb3 := of_decide_eq_false hb3
      obtain rfl : j = 0 := by omega
      refine AW.exit ?_
      refine AW.seq ?_
      refine AW.region ?_
      refine AO.xs rfl rfl rfl (XS.assign rfl) ?_
      refine AO.nil ?_
      refine AW.ret ?_
      exact ⟨_, rfl, intEq (sgN_no (pow0 hq))⟩

set_option maxRecDepth 100000 in
theorem small_c {n : Nat} (hn : n < 9223372036854775808) : AC Try.prog 74 [intD (n : Int)] (fun d => d = natD n) := by
  refine AC.intro Try.func74 Try.ntmps74 Try.results74 rfl (by simp) (fun w0 T => ?_)
  refine AW.seq ?_
  refine AW.region ?_
  refine AO.xs rfl rfl rfl (XS.assign rfl) ?_
  refine AO.nil ?_
  refine AW.seq ?_
  refine AW.region ?_
  refine AO.xs rfl rfl rfl (XS.move rfl) ?_
  refine AO.xs rfl rfl rfl (XS.convU64 rfl (us rfl) (ik rfl)) ?_
  refine AO.xs rfl rfl rfl (XS.buildSlice (ap rfl) rfl rfl rfl (by decide)) ?_
  refine AO.xs rfl rfl rfl (XS.call rfl (by kernel_rfl) rfl (trim_c (k := 1) (V := n) (by omega) (by omega))) ?_
  refine AO.xs rfl rfl rfl (XS.assign rfl) ?_
  refine AO.nil ?_
  refine AW.ret ?_
  exact ⟨_, rfl, rfl⟩

end Go.Proofs.Ytgafdhpagifpcaa.C
