/-
  OWN WORK. The plain law: the four curves' numbers. No program is in sight.
-/
import Derived.Test.YtnepbbhcbehilaaN6
namespace Go.Proofs.Ytnepbbhcbehilaa.Num
set_option linter.unusedVariables false
set_option maxRecDepth 100000

/-- A curve: its name, which kind, and its numbers in bytes. -/
structure Fm where
  nm : ByteArray
  br : Bool
  p : ByteArray
  r : ByteArray
  b : ByteArray
  ba : ByteArray
  bb : ByteArray
  x : ByteArray
  y : ByteArray
  xa : ByteArray
  xb : ByteArray
  ya : ByteArray
  yb : ByteArray
def canonB (s : ByteArray) : Bool := s.size == 0 || s.data.getD 0 0 != 0
theorem canonB_ok {s : ByteArray} (h : canonB s = true) : canon s := by
  intro hp
  unfold canonB at h
  have hg : s.data.getD 0 0 = s.data[0] := by rw [Array.getD_eq_getD_getElem?, Array.getElem?_eq_getElem hp]; rfl
  rw [hg, Bool.or_eq_true, beq_iff_eq, bne_iff_ne] at h
  exact h.resolve_left (fun e => by have : s.data.size = 0 := e; omega)
def figsB (s : ByteArray) : Bool := (List.range s.size).all fun i => decide (48 ≤ (s.data.getD i 0).toNat ∧ (s.data.getD i 0).toNat ≤ 57)
theorem figsB_ok {s : ByteArray} (h : figsB s = true) : figsOk s := fun i hi => by
  have := List.all_eq_true.1 h i (List.mem_range.2 hi)
  simpa [isFig] using this

def F1 : Fm := ⟨⟨#[110, 97, 114, 114, 111, 119, 45, 115, 109, 97, 108, 108]⟩, false, ⟨#[26, 9, 71]⟩, ⟨#[26, 4, 1]⟩, ⟨#[3]⟩, ⟨#[180, 37]⟩, ⟨#[4, 56, 219]⟩, ⟨#[1]⟩, ⟨#[2]⟩, ⟨#[16, 67, 128]⟩, ⟨#[2, 2, 138]⟩, ⟨#[9, 214, 145]⟩, ⟨#[7, 77, 16]⟩⟩
def F2 : Fm := ⟨⟨#[98, 114, 111, 97, 100, 45, 115, 109, 97, 108, 108]⟩, true, ⟨#[2, 122, 161, 225, 67]⟩, ⟨#[150, 3, 193]⟩, ⟨#[4]⟩, ⟨#[4]⟩, ⟨#[4]⟩, ⟨#[67, 62, 178, 27]⟩, ⟨#[1, 45, 53, 103, 74]⟩, ⟨#[1, 102, 213, 209, 47]⟩, ⟨#[1, 137, 76, 68, 202]⟩, ⟨#[64, 198, 173, 233]⟩, ⟨#[1, 178, 254, 95, 222]⟩⟩
def F3 : Fm := ⟨⟨#[110, 97, 114, 114, 111, 119]⟩, false, ⟨#[48, 100, 78, 114, 225, 49, 160, 41, 184, 80, 69, 182, 129, 129, 88, 93, 151, 129, 106, 145, 104, 113, 202, 141, 60, 32, 140, 22, 216, 124, 253, 71]⟩, ⟨#[48, 100, 78, 114, 225, 49, 160, 41, 184, 80, 69, 182, 129, 129, 88, 93, 40, 51, 232, 72, 121, 185, 112, 145, 67, 225, 245, 147, 240, 0, 0, 1]⟩, ⟨#[3]⟩, ⟨#[43, 20, 157, 64, 206, 184, 170, 174, 129, 190, 24, 153, 27, 224, 106, 195, 181, 180, 197, 229, 89, 219, 239, 163, 50, 103, 230, 220, 36, 161, 56, 229]⟩, ⟨#[151, 19, 176, 58, 240, 254, 212, 205, 44, 175, 173, 238, 216, 253, 244, 167, 79, 160, 132, 229, 45, 24, 82, 228, 162, 189, 6, 133, 195, 21, 210]⟩, ⟨#[1]⟩, ⟨#[2]⟩, ⟨#[24, 0, 222, 239, 18, 31, 30, 118, 66, 106, 0, 102, 94, 92, 68, 121, 103, 67, 34, 212, 247, 94, 218, 221, 70, 222, 189, 92, 217, 146, 246, 237]⟩, ⟨#[25, 142, 147, 147, 146, 13, 72, 58, 114, 96, 191, 183, 49, 251, 93, 37, 241, 170, 73, 51, 53, 169, 231, 18, 151, 228, 133, 183, 174, 243, 18, 194]⟩, ⟨#[18, 200, 94, 165, 219, 140, 109, 235, 74, 171, 113, 128, 141, 203, 64, 143, 227, 209, 231, 105, 12, 67, 211, 123, 76, 230, 204, 1, 102, 250, 125, 170]⟩, ⟨#[9, 6, 137, 208, 88, 95, 240, 117, 236, 158, 153, 173, 105, 12, 51, 149, 188, 75, 49, 51, 112, 179, 142, 243, 85, 172, 218, 220, 209, 34, 151, 91]⟩⟩
def F4 : Fm := ⟨⟨#[98, 114, 111, 97, 100]⟩, true, ⟨#[26, 1, 17, 234, 57, 127, 230, 154, 75, 27, 167, 182, 67, 75, 172, 215, 100, 119, 75, 132, 243, 133, 18, 191, 103, 48, 210, 160, 246, 176, 246, 36, 30, 171, 255, 254, 177, 83, 255, 255, 185, 254, 255, 255, 255, 255, 170, 171]⟩, ⟨#[115, 237, 167, 83, 41, 157, 125, 72, 51, 57, 216, 8, 9, 161, 216, 5, 83, 189, 164, 2, 255, 254, 91, 254, 255, 255, 255, 255, 0, 0, 0, 1]⟩, ⟨#[4]⟩, ⟨#[4]⟩, ⟨#[4]⟩, ⟨#[23, 241, 211, 167, 49, 151, 215, 148, 38, 149, 99, 140, 79, 169, 172, 15, 195, 104, 140, 79, 151, 116, 185, 5, 161, 78, 58, 63, 23, 27, 172, 88, 108, 85, 232, 63, 249, 122, 26, 239, 251, 58, 240, 10, 219, 34, 198, 187]⟩, ⟨#[8, 179, 244, 129, 227, 170, 160, 241, 160, 158, 48, 237, 116, 29, 138, 228, 252, 245, 224, 149, 213, 208, 10, 246, 0, 219, 24, 203, 44, 4, 179, 237, 208, 60, 199, 68, 162, 136, 138, 228, 12, 170, 35, 41, 70, 197, 231, 225]⟩, ⟨#[2, 74, 162, 178, 240, 143, 10, 145, 38, 8, 5, 39, 45, 197, 16, 81, 198, 228, 122, 212, 250, 64, 59, 2, 180, 81, 11, 100, 122, 227, 209, 119, 11, 172, 3, 38, 168, 5, 187, 239, 212, 128, 86, 200, 193, 33, 189, 184]⟩, ⟨#[19, 224, 43, 96, 82, 113, 159, 96, 125, 172, 211, 160, 136, 39, 79, 101, 89, 107, 208, 208, 153, 32, 182, 26, 181, 218, 97, 187, 220, 127, 80, 73, 51, 76, 241, 18, 19, 148, 93, 87, 229, 172, 125, 5, 93, 4, 43, 126]⟩, ⟨#[12, 229, 213, 39, 114, 125, 110, 17, 140, 201, 205, 198, 218, 46, 53, 26, 173, 253, 155, 170, 140, 189, 211, 167, 109, 66, 154, 105, 81, 96, 209, 44, 146, 58, 201, 204, 59, 172, 162, 137, 225, 147, 84, 134, 8, 184, 40, 1]⟩, ⟨#[6, 6, 196, 160, 46, 167, 52, 204, 50, 172, 210, 176, 43, 194, 139, 153, 203, 62, 40, 126, 133, 167, 99, 175, 38, 116, 146, 171, 87, 46, 153, 171, 63, 55, 13, 39, 92, 236, 29, 161, 170, 169, 7, 95, 240, 95, 121, 190]⟩⟩
def cvF (id : Int) : Fm := if id = 1 then F1 else if id = 2 then F2 else if id = 3 then F3 else F4
theorem cvF_one (P : Fm → Prop) (h1 : P F1) (h2 : P F2) (h3 : P F3) (h4 : P F4) (id : Int) : P (cvF id) := by unfold cvF; split; exact h1; split; exact h2; split; exact h3; exact h4
/-- All is right with a curve's numbers. -/
structure Fm.Ok (f : Fm) : Prop where
  cp : canon f.p
  cr : canon f.r
  cb : canon f.b
  cba : canon f.ba
  cbb : canon f.bb
  cx : canon f.x
  cy : canon f.y
  cxa : canon f.xa
  cxb : canon f.xb
  cya : canon f.ya
  cyb : canon f.yb
  lp : f.p.size ≤ 48
  lr : f.r.size ≤ 48
  lb : f.b.size ≤ 48
  lba : f.ba.size ≤ 48
  lbb : f.bb.size ≤ 48
  lx : f.x.size ≤ 48
  ly : f.y.size ≤ 48
  lxa : f.xa.size ≤ 48
  lxb : f.xb.size ≤ 48
  lya : f.ya.size ≤ 48
  lyb : f.yb.size ≤ 48
  tb : beN f.b < beN f.p
  tba : beN f.ba < beN f.p
  tbb : beN f.bb < beN f.p
  tx : beN f.x < beN f.p
  ty : beN f.y < beN f.p
  txa : beN f.xa < beN f.p
  txb : beN f.xb < beN f.p
  tya : beN f.ya < beN f.p
  tyb : beN f.yb < beN f.p
  one : 1 < beN f.p
  two : 1 < beN f.r
theorem F1_ok : F1.Ok := ⟨canonB_ok (by decide +kernel), canonB_ok (by decide +kernel), canonB_ok (by decide +kernel), canonB_ok (by decide +kernel), canonB_ok (by decide +kernel), canonB_ok (by decide +kernel), canonB_ok (by decide +kernel), canonB_ok (by decide +kernel), canonB_ok (by decide +kernel), canonB_ok (by decide +kernel), canonB_ok (by decide +kernel), by decide +kernel, by decide +kernel, by decide +kernel, by decide +kernel, by decide +kernel, by decide +kernel, by decide +kernel, by decide +kernel, by decide +kernel, by decide +kernel, by decide +kernel, by decide +kernel, by decide +kernel, by decide +kernel, by decide +kernel, by decide +kernel, by decide +kernel, by decide +kernel, by decide +kernel, by decide +kernel, by decide +kernel, by decide +kernel⟩
theorem F2_ok : F2.Ok := ⟨canonB_ok (by decide +kernel), canonB_ok (by decide +kernel), canonB_ok (by decide +kernel), canonB_ok (by decide +kernel), canonB_ok (by decide +kernel), canonB_ok (by decide +kernel), canonB_ok (by decide +kernel), canonB_ok (by decide +kernel), canonB_ok (by decide +kernel), canonB_ok (by decide +kernel), canonB_ok (by decide +kernel), by decide +kernel, by decide +kernel, by decide +kernel, by decide +kernel, by decide +kernel, by decide +kernel, by decide +kernel, by decide +kernel, by decide +kernel, by decide +kernel, by decide +kernel, by decide +kernel, by decide +kernel, by decide +kernel, by decide +kernel, by decide +kernel, by decide +kernel, by decide +kernel, by decide +kernel, by decide +kernel, by decide +kernel, by decide +kernel⟩
theorem F3_ok : F3.Ok := ⟨canonB_ok (by decide +kernel), canonB_ok (by decide +kernel), canonB_ok (by decide +kernel), canonB_ok (by decide +kernel), canonB_ok (by decide +kernel), canonB_ok (by decide +kernel), canonB_ok (by decide +kernel), canonB_ok (by decide +kernel), canonB_ok (by decide +kernel), canonB_ok (by decide +kernel), canonB_ok (by decide +kernel), by decide +kernel, by decide +kernel, by decide +kernel, by decide +kernel, by decide +kernel, by decide +kernel, by decide +kernel, by decide +kernel, by decide +kernel, by decide +kernel, by decide +kernel, by decide +kernel, by decide +kernel, by decide +kernel, by decide +kernel, by decide +kernel, by decide +kernel, by decide +kernel, by decide +kernel, by decide +kernel, by decide +kernel, by decide +kernel⟩
theorem F4_ok : F4.Ok := ⟨canonB_ok (by decide +kernel), canonB_ok (by decide +kernel), canonB_ok (by decide +kernel), canonB_ok (by decide +kernel), canonB_ok (by decide +kernel), canonB_ok (by decide +kernel), canonB_ok (by decide +kernel), canonB_ok (by decide +kernel), canonB_ok (by decide +kernel), canonB_ok (by decide +kernel), canonB_ok (by decide +kernel), by decide +kernel, by decide +kernel, by decide +kernel, by decide +kernel, by decide +kernel, by decide +kernel, by decide +kernel, by decide +kernel, by decide +kernel, by decide +kernel, by decide +kernel, by decide +kernel, by decide +kernel, by decide +kernel, by decide +kernel, by decide +kernel, by decide +kernel, by decide +kernel, by decide +kernel, by decide +kernel, by decide +kernel, by decide +kernel⟩
theorem cvF_ok (id : Int) : (cvF id).Ok := cvF_one Fm.Ok F1_ok F2_ok F3_ok F4_ok id
theorem great_of {s : ByteArray} (h1 : canon s) (h2 : s.size ≤ 48) : greatOk s := ⟨by omega, h1⟩
end Go.Proofs.Ytnepbbhcbehilaa.Num
