/-
  The law FnExactSameKey of the given program returns true for all arguments, and leaves them as they were.
  Conditions: none. What is proved is the given row's sentence, for every input. OWN WORK, written by wip/tools/law.py; the walk is in the imported texts.
-/
import Derived.Test.YtnepbbhcbehilaaRows
import Derived.Test.YtnepbbhcbehilaaAvR
import Derived.Test.YtnepbbhcbehilaaC3
namespace Go.Proofs.Ytnepbbhcbehilaa.FnExactSameKeyLaw
open Go Go.RowKit Go.ChangeShapes Go.WideShapes Go.ChangeAt Go.Proofs.Ytnepbbhcbehilaa.Av Go.Proofs.Ytnepbbhcbehilaa.C
theorem own : ownKnob Try.prog.godebug = none := by kernel_rfl
theorem laidOut : laidOutB Try.prog = true := by kernel_rfl
theorem pars : parsB Try.prog #[53, 53].toList = some [.ag [.int .i64, .bool, .str, .str, .bool, .str, .str, .str, .str, .bool, .str, .str, .str, .str, .bool, .str, .str, .str, .str, .sl [.bool, .str, .str]], .ag [.int .i64, .bool, .str, .str, .bool, .str, .str, .str, .str, .bool, .str, .str, .str, .str, .bool, .str, .str, .str, .str, .sl [.bool, .str, .str]]] := by kernel_rfl
theorem reads : #[53, 53].toList.all (fun t => Try.prog.readableRec t && decide (t < Try.prog.types.size)) = true := by kernel_rfl
theorem walk (ds : List Dv) (h : OkPs [.ag [.int .i64, .bool, .str, .str, .bool, .str, .str, .str, .str, .bool, .str, .str, .str, .str, .bool, .str, .str, .str, .str, .sl [.bool, .str, .str]], .ag [.int .i64, .bool, .str, .str, .bool, .str, .str, .str, .str, .bool, .str, .str, .str, .str, .bool, .str, .str, .str, .str, .sl [.bool, .str, .str]]] ds) : AC Try.prog 6 ds (fun d => d = .im (.bool true)) := by
  obtain ⟨d0, e0, rfl, ⟨c0, rfl, p0⟩, q0⟩ := pars_cons h
  obtain ⟨a0, b0, rfl, r0, s0⟩ := oks_cons p0
  obtain ⟨v0, rfl, h0⟩ := ok_i64 r0
  obtain ⟨a1, b1, rfl, r1, s1⟩ := oks_cons s0
  obtain ⟨v1, rfl⟩ := ok_bool r1
  obtain ⟨a2, b2, rfl, r2, s2⟩ := oks_cons s1
  obtain ⟨v2, rfl, h2⟩ := ok_str r2
  obtain ⟨a3, b3, rfl, r3, s3⟩ := oks_cons s2
  obtain ⟨v3, rfl, h3⟩ := ok_str r3
  obtain ⟨a4, b4, rfl, r4, s4⟩ := oks_cons s3
  obtain ⟨v4, rfl⟩ := ok_bool r4
  obtain ⟨a5, b5, rfl, r5, s5⟩ := oks_cons s4
  obtain ⟨v5, rfl, h5⟩ := ok_str r5
  obtain ⟨a6, b6, rfl, r6, s6⟩ := oks_cons s5
  obtain ⟨v6, rfl, h6⟩ := ok_str r6
  obtain ⟨a7, b7, rfl, r7, s7⟩ := oks_cons s6
  obtain ⟨v7, rfl, h7⟩ := ok_str r7
  obtain ⟨a8, b8, rfl, r8, s8⟩ := oks_cons s7
  obtain ⟨v8, rfl, h8⟩ := ok_str r8
  obtain ⟨a9, b9, rfl, r9, s9⟩ := oks_cons s8
  obtain ⟨v9, rfl⟩ := ok_bool r9
  obtain ⟨a10, b10, rfl, r10, s10⟩ := oks_cons s9
  obtain ⟨v10, rfl, h10⟩ := ok_str r10
  obtain ⟨a11, b11, rfl, r11, s11⟩ := oks_cons s10
  obtain ⟨v11, rfl, h11⟩ := ok_str r11
  obtain ⟨a12, b12, rfl, r12, s12⟩ := oks_cons s11
  obtain ⟨v12, rfl, h12⟩ := ok_str r12
  obtain ⟨a13, b13, rfl, r13, s13⟩ := oks_cons s12
  obtain ⟨v13, rfl, h13⟩ := ok_str r13
  obtain ⟨a14, b14, rfl, r14, s14⟩ := oks_cons s13
  obtain ⟨v14, rfl⟩ := ok_bool r14
  obtain ⟨a15, b15, rfl, r15, s15⟩ := oks_cons s14
  obtain ⟨v15, rfl, h15⟩ := ok_str r15
  obtain ⟨a16, b16, rfl, r16, s16⟩ := oks_cons s15
  obtain ⟨v16, rfl, h16⟩ := ok_str r16
  obtain ⟨a17, b17, rfl, r17, s17⟩ := oks_cons s16
  obtain ⟨v17, rfl, h17⟩ := ok_str r17
  obtain ⟨a18, b18, rfl, r18, s18⟩ := oks_cons s17
  obtain ⟨v18, rfl, h18⟩ := ok_str r18
  obtain ⟨a19, b19, rfl, r19, s19⟩ := oks_cons s18
  obtain ⟨v19, rfl, h19, hz19⟩ := ok_pts r19
  obtain rfl := oks_nil s19
  obtain ⟨d1, e1, rfl, ⟨c1, rfl, p1⟩, q1⟩ := pars_cons q0
  obtain ⟨a20, b20, rfl, r20, s20⟩ := oks_cons p1
  obtain ⟨v20, rfl, h20⟩ := ok_i64 r20
  obtain ⟨a21, b21, rfl, r21, s21⟩ := oks_cons s20
  obtain ⟨v21, rfl⟩ := ok_bool r21
  obtain ⟨a22, b22, rfl, r22, s22⟩ := oks_cons s21
  obtain ⟨v22, rfl, h22⟩ := ok_str r22
  obtain ⟨a23, b23, rfl, r23, s23⟩ := oks_cons s22
  obtain ⟨v23, rfl, h23⟩ := ok_str r23
  obtain ⟨a24, b24, rfl, r24, s24⟩ := oks_cons s23
  obtain ⟨v24, rfl⟩ := ok_bool r24
  obtain ⟨a25, b25, rfl, r25, s25⟩ := oks_cons s24
  obtain ⟨v25, rfl, h25⟩ := ok_str r25
  obtain ⟨a26, b26, rfl, r26, s26⟩ := oks_cons s25
  obtain ⟨v26, rfl, h26⟩ := ok_str r26
  obtain ⟨a27, b27, rfl, r27, s27⟩ := oks_cons s26
  obtain ⟨v27, rfl, h27⟩ := ok_str r27
  obtain ⟨a28, b28, rfl, r28, s28⟩ := oks_cons s27
  obtain ⟨v28, rfl, h28⟩ := ok_str r28
  obtain ⟨a29, b29, rfl, r29, s29⟩ := oks_cons s28
  obtain ⟨v29, rfl⟩ := ok_bool r29
  obtain ⟨a30, b30, rfl, r30, s30⟩ := oks_cons s29
  obtain ⟨v30, rfl, h30⟩ := ok_str r30
  obtain ⟨a31, b31, rfl, r31, s31⟩ := oks_cons s30
  obtain ⟨v31, rfl, h31⟩ := ok_str r31
  obtain ⟨a32, b32, rfl, r32, s32⟩ := oks_cons s31
  obtain ⟨v32, rfl, h32⟩ := ok_str r32
  obtain ⟨a33, b33, rfl, r33, s33⟩ := oks_cons s32
  obtain ⟨v33, rfl, h33⟩ := ok_str r33
  obtain ⟨a34, b34, rfl, r34, s34⟩ := oks_cons s33
  obtain ⟨v34, rfl⟩ := ok_bool r34
  obtain ⟨a35, b35, rfl, r35, s35⟩ := oks_cons s34
  obtain ⟨v35, rfl, h35⟩ := ok_str r35
  obtain ⟨a36, b36, rfl, r36, s36⟩ := oks_cons s35
  obtain ⟨v36, rfl, h36⟩ := ok_str r36
  obtain ⟨a37, b37, rfl, r37, s37⟩ := oks_cons s36
  obtain ⟨v37, rfl, h37⟩ := ok_str r37
  obtain ⟨a38, b38, rfl, r38, s38⟩ := oks_cons s37
  obtain ⟨v38, rfl, h38⟩ := ok_str r38
  obtain ⟨a39, b39, rfl, r39, s39⟩ := oks_cons s38
  obtain ⟨v39, rfl, h39, hz39⟩ := ok_pts r39
  obtain rfl := oks_nil s39
  obtain rfl := pars_nil q1
  exact fnSameKey_c (p := ⟨v0, ⟨v1, v2, v3⟩, ⟨v4, ⟨v5, v6⟩, ⟨v7, v8⟩⟩, ⟨v9, ⟨v10, v11⟩, ⟨v12, v13⟩⟩, ⟨v14, ⟨v15, v16⟩, ⟨v17, v18⟩⟩, v19⟩) (q := ⟨v20, ⟨v21, v22, v23⟩, ⟨v24, ⟨v25, v26⟩, ⟨v27, v28⟩⟩, ⟨v29, ⟨v30, v31⟩, ⟨v32, v33⟩⟩, ⟨v34, ⟨v35, v36⟩, ⟨v37, v38⟩⟩, v39⟩) ⟨⟨h2, h3⟩, ⟨⟨h5, h6⟩, ⟨h7, h8⟩⟩, ⟨⟨h10, h11⟩, ⟨h12, h13⟩⟩, ⟨⟨h15, h16⟩, ⟨h17, h18⟩⟩, h19, hz19⟩ ⟨⟨h22, h23⟩, ⟨⟨h25, h26⟩, ⟨h27, h28⟩⟩, ⟨⟨h30, h31⟩, ⟨h32, h33⟩⟩, ⟨⟨h35, h36⟩, ⟨h37, h38⟩⟩, h39, hz39⟩
set_option maxRecDepth 100000 in
theorem lifted (os : Os) (started : os.Started) (H : Type) (enc : TypeId × Value → H) :
    ReturnsInHanded {} Try.checked os 6 .any (Rows.fnExactSameKeySpec.pre6 enc Try.prog Try.f6 Rows.fnExactSameKeyRow.domain false) (Rows.fnExactSameKeySpec.post enc Try.prog Try.f6 false true false false) :=
  law_lift (C := Try.checked) (rt := 4) own started (by kernel_rfl) Try.func6
    (ChangeSpec.witness6 (enc := enc) (C := Try.checked) false ⟨#[], #[.agg #[.int .i64 0, .bool false, .string ByteArray.empty, .string ByteArray.empty, .bool false, .string ByteArray.empty, .string ByteArray.empty, .string ByteArray.empty, .string ByteArray.empty, .bool false, .string ByteArray.empty, .string ByteArray.empty, .string ByteArray.empty, .string ByteArray.empty, .bool false, .string ByteArray.empty, .string ByteArray.empty, .string ByteArray.empty, .string ByteArray.empty, .slice none 0 0], .agg #[.int .i64 0, .bool false, .string ByteArray.empty, .string ByteArray.empty, .bool false, .string ByteArray.empty, .string ByteArray.empty, .string ByteArray.empty, .string ByteArray.empty, .bool false, .string ByteArray.empty, .string ByteArray.empty, .string ByteArray.empty, .string ByteArray.empty, .bool false, .string ByteArray.empty, .string ByteArray.empty, .string ByteArray.empty, .string ByteArray.empty, .slice none 0 0]], []⟩ 8 (by kernel_rfl) (by kernel_rfl) (by kernel_rfl) (by kernel_rfl))
    Try.params6 (by kernel_rfl) Try.underlying4 rfl laidOut reads pars
    (fun ds hd => by
      match ds, hd with
      | [d0, d1], _ => rfl)
    walk
theorem over : Rows.fnExactSameKeyRow.holds Try.pinned (OpenSpec.ofChange Rows.fnExactSameKeySpec) :=
  OpenClaim.holds_of_wide 6 Try.f6 rfl rfl rfl rfl rfl rfl rfl ⟨rfl, rfl, rfl, rfl, rfl⟩ rfl rfl rfl rfl rfl (by kernel_rfl) Try.func6 (by kernel_rfl)
    (of_decide_eq_true (by kernel_rfl)) (by unfold Func.isWrapper; first | (rw [if_pos (by decide +kernel)]; kernel_rfl) | (rw [if_neg (by decide +kernel)]; exact ⟨rfl, rfl⟩))
    (fun os started H enc _ => lifted os started H enc)
theorem proved : Rows.FnExactSameKeySaid := over
#print axioms proved
end Go.Proofs.Ytnepbbhcbehilaa.FnExactSameKeyLaw
namespace Go.Proofs.Ytnepbbhcbehilaa
/-- The row, under a short name, for the claim. -/
theorem fnExactSameKey_holds : Rows.FnExactSameKeySaid := FnExactSameKeyLaw.proved
end Go.Proofs.Ytnepbbhcbehilaa
