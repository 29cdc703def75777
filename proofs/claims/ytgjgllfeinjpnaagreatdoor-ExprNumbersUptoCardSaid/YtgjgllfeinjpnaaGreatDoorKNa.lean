import Derived.Test.YtgjgllfeinjpnaaGreatDoorKOa
import Derived.KernelRfl
/- ExprNumbers: the plain law. No program in sight. -/
namespace Go.Proofs.YtgjgllfeinjpnaaGreatDoor
open Go.RowKit
set_option linter.unusedSimpArgs false
set_option linter.unusedVariables false
set_option maxRecDepth 100000
def tn1 : ByteArray := ⟨#[97, 32, 43, 32, 98]⟩
def tn2 : ByteArray := ⟨#[97, 32, 43, 32, 98, 32, 45, 32, 98, 32, 61, 32, 97]⟩
def tn3 : ByteArray := ⟨#[45, 97]⟩
def tn4 : ByteArray := ⟨#[97, 32, 42, 32, 98]⟩
def tn5 : ByteArray := ⟨#[98, 32, 42, 32, 97]⟩
def sn2 : List ST := [pA, pB, oP 12, pB, oP 13, pA, oP 15]
def sn3 : List ST := [pA, oP 9]
def sn5 : List ST := [pB, pA, oP 14]
theorem conn1 : condP tn1 = some (so 12) := by kernel_rfl
theorem conn2 : condP tn2 = some sn2 := by kernel_rfl
theorem conn3 : condP tn3 = some sn3 := by kernel_rfl
theorem conn4 : condP tn4 = some (so 14) := by kernel_rfl
theorem conn5 : condP tn5 = some sn5 := by kernel_rfl
theorem goodn1 : goodB (so 12) = true := by kernel_rfl
theorem goodn2 : goodB sn2 = true := by kernel_rfl
theorem goodn3 : goodB sn3 = true := by kernel_rfl
theorem goodn4 : goodB (so 14) = true := by kernel_rfl
theorem goodn5 : goodB sn5 = true := by kernel_rfl
theorem rightn1 : rightB (so 12) = true := by kernel_rfl
theorem rightn2 : rightB sn2 = true := by kernel_rfl
theorem rightn3 : rightB sn3 = true := by kernel_rfl
theorem rightn4 : rightB (so 14) = true := by kernel_rfl
theorem rightn5 : rightB sn5 = true := by kernel_rfl
theorem headI (n d : Int) : headZ 2 false n Ez 0 0 d = 0 := by
  have h2 : (decide ((2 : Int) ≠ 3) || Lib.validD Ez.data.toList) = true := by kernel_rfl
  have h3 : (decide (Ez.size ≤ 1024)) = true := by kernel_rfl
  have h4 : shapeB 2 false n Ez 0 0 = true := by
    unfold shapeB flatB
    simp
  unfold headZ
  rw [h2, h3, h4]
  simp [firstZ, unlessZ]
theorem checkI (n d : Int) : checkV (intV n) d = 0 := by
  unfold checkV
  rw [if_neg (by simp [VL.len, FL.len, headI]), if_neg (by simp [checkL])]
  rfl
theorem nameA0 : firstZ [nameZ nA, unlessZ (Op.bytesLess (⟨#[]⟩ : ByteArray).toList nA.toList) 18] = 0 := by kernel_rfl
theorem nameB0 : firstZ [nameZ nB, unlessZ (Op.bytesLess nA.toList nB.toList) 18] = 0 := by kernel_rfl
theorem headS : headZ 6 false 0 Ez 0 2 0 = 0 := by kernel_rfl
theorem checkn (a b : Int) : checkV (row2 (intV a) (intV b)) 0 = 0 := by
  unfold checkV
  rw [if_neg (by simp [VL.len, FL.len, headS]), if_neg (by simp [checkL])]
  unfold checkF
  rw [if_neg (by rw [nameA0]; simp), if_neg (by rw [checkI]; simp)]
  unfold checkF
  rw [if_neg (by rw [nameB0]; simp), if_neg (by rw [checkI]; simp)]
  rfl
def numRz (k a b : Int) : Rz := match numZ k a b with | some n => (intV n, 0) | none => (nullV, 15)
theorem operI (k a b : Int) (hk : k = 12 ∨ k = 13 ∨ k = 14) : operR k [(intV a, 0), (intV b, 0)] = numRz k a b := by
  unfold operR allR allR allR
  simp only []
  rw [if_neg (by simp), if_neg (by simp)]
  simp only []
  rw [if_neg (by omega), if_neg (by simp [VT.kind]), if_neg (by omega), if_neg (by omega), if_pos (by omega)]
  show countedR k (intV a) (intV b) = numRz k a b
  unfold countedR
  rw [if_pos ⟨rfl, rfl⟩]
  rfl
theorem operN (a : Int) : operR 9 [(intV a, 0)] = numRz 13 0 a := by
  unfold operR allR allR
  simp only []
  rw [if_neg (by simp)]
  simp only []
  rw [if_neg (by omega), if_neg (by simp [VT.kind]), if_pos trivial]
  show countedR 13 (intV 0) (intV a) = numRz 13 0 a
  unfold countedR
  rw [if_pos ⟨rfl, rfl⟩]
  rfl
theorem operErr (k e : Int) (v : VT) (l : List Rz) (he : e ≠ 0) : operR k ((v, e) :: l) = (nullV, e) := by
  unfold operR allR
  rw [if_pos he]
theorem operEq (a : Int) : operR 15 [(intV a, 0), (intV a, 0)] = (truthV true, 0) := by
  have hc : cmpV (intV a) (intV a) = 0 := by
    unfold cmpV
    rw [if_neg (by simp), if_neg (by simp), if_pos rfl]
    unfold cmpI
    simp
  unfold operR allR allR allR
  simp only []
  rw [if_neg (by simp), if_neg (by simp)]
  simp only []
  rw [if_neg (by omega), if_neg (by simp [VT.kind]), if_neg (by omega), if_neg (by omega), if_neg (by omega)]
  show heldR 15 (intV a) (intV a) = _
  unfold heldR
  rw [if_pos rfl, hc]
  rfl
theorem evaln1 (a b : Int) : evalE (so 12) (row2 (intV a) (intV b)) = numRz 12 a b := by
  unfold evalE
  rw [rightn1, if_pos rfl, if_pos (checkn a b), treeo 12 _ _ (by omega), operI 12 a b (by omega)]
theorem evaln4 (a b : Int) : evalE (so 14) (row2 (intV a) (intV b)) = numRz 14 a b := by
  unfold evalE
  rw [rightn4, if_pos rfl, if_pos (checkn a b), treeo 14 _ _ (by omega), operI 14 a b (by omega)]
section
variable (x y : VT)
theorem st_a (l : List Rz) : stepE (row2 x y) l pA = l ++ [(x, 0)] := by
  have t1 : pA.takes = 0 := by kernel_rfl
  have h1 : oneR pA (row2 x y) [] = (x, 0) := leafA x y
  unfold stepE
  rw [t1]
  simp [h1]
theorem st_b (l : List Rz) : stepE (row2 x y) l pB = l ++ [(y, 0)] := by
  have t1 : pB.takes = 0 := by kernel_rfl
  have h1 : oneR pB (row2 x y) [] = (y, 0) := leafB x y
  unfold stepE
  rw [t1]
  simp [h1]
theorem st_o2 (k : Int) (u v : Rz) (hk : k = 12 ∨ k = 13 ∨ k = 14 ∨ k = 15) : stepE (row2 x y) [u, v] (oP k) = [operR k [u, v]] := by
  have t3 : (oP k).takes = 2 := by
    rcases hk with rfl | rfl | rfl | rfl <;> kernel_rfl
  have h3 : oneR (oP k) (row2 x y) [u, v] = operR k [u, v] := by
    unfold oneR
    rw [if_neg (by simp; omega), if_neg (by simp; omega), if_neg (by simp; omega), if_neg (by simp)]
  unfold stepE
  rw [t3]
  simp [h3]
theorem st_o1 (u : Rz) : stepE (row2 x y) [u] (oP 9) = [operR 9 [u]] := by
  have t3 : (oP 9).takes = 1 := by kernel_rfl
  have h3 : oneR (oP 9) (row2 x y) [u] = operR 9 [u] := by
    unfold oneR
    rw [if_neg (by simp), if_neg (by simp), if_neg (by simp), if_neg (by simp)]
  unfold stepE
  rw [t3]
  simp [h3]
end
theorem evaln3 (a b : Int) : evalE sn3 (row2 (intV a) (intV b)) = numRz 13 0 a := by
  unfold evalE
  rw [rightn3, if_pos rfl, if_pos (checkn a b)]
  unfold treeE stackE sn3
  simp only [List.foldl_cons, List.foldl_nil, st_a, List.nil_append, st_o1, operN]
  rfl
theorem evaln5 (a b : Int) : evalE sn5 (row2 (intV a) (intV b)) = numRz 14 b a := by
  unfold evalE
  rw [rightn5, if_pos rfl, if_pos (checkn a b)]
  unfold treeE stackE sn5
  simp only [List.foldl_cons, List.foldl_nil, st_a, st_b, List.nil_append, List.cons_append]
  rw [st_o2 _ _ 14 _ _ (by omega), operI 14 b a (by omega)]
  rfl
theorem evaln2 (a b : Int) (ha : I64 a) : evalE sn2 (row2 (intV a) (intV b)) = if fitsB (a + b) then (truthV true, 0) else (nullV, 15) := by
  unfold evalE
  rw [rightn2, if_pos rfl, if_pos (checkn a b)]
  unfold treeE stackE sn2
  simp only [List.foldl_cons, List.foldl_nil, st_a, st_b, List.nil_append, List.cons_append]
  rw [st_o2 _ _ 12 _ _ (by omega), operI 12 a b (by omega)]
  unfold numRz numZ
  rw [if_pos rfl]
  by_cases hf : fitsB (a + b) = true
  · rw [if_pos hf, if_pos hf]
    simp only [st_b, List.cons_append, List.nil_append]
    rw [st_o2 _ _ 13 _ _ (by omega), operI 13 (a + b) b (by omega)]
    unfold numRz numZ
    have hfa : fitsB (a + b - b) = true := by
      rw [show a + b - b = a by omega]
      unfold fitsB
      unfold I64 at ha
      simp
      omega
    rw [if_neg (by decide), if_pos rfl, if_pos hfa, show a + b - b = a by omega]
    simp only [st_a, List.cons_append, List.nil_append]
    rw [st_o2 _ _ 15 _ _ (by omega), operEq]
    rfl
  · rw [if_neg hf, if_neg hf]
    simp only [st_b, List.cons_append, List.nil_append]
    rw [st_o2 _ _ 13 _ _ (by omega), operErr _ _ _ _ (by decide)]
    simp only [st_a, List.cons_append, List.nil_append]
    rw [st_o2 _ _ 15 _ _ (by omega), operErr _ _ _ _ (by decide)]
    rfl
end Go.Proofs.YtgjgllfeinjpnaaGreatDoor
/- ExprNumbers: its sums and products, plain. -/
namespace Go.Proofs.YtgjgllfeinjpnaaGreatDoor
open Go.RowKit
set_option linter.unusedSimpArgs false
set_option linter.unusedVariables false
theorem fits_law (a b : Int) (ha : I64 a) (hb : I64 b) : ((decide (0 ≤ b) && decide (a ≤ 9223372036854775807 - b)) || (decide (b < 0) && decide (-9223372036854775808 - b ≤ a))) = fitsB (a + b) := by
  unfold I64 at ha hb
  unfold fitsB
  rw [Bool.eq_iff_iff]
  simp only [Bool.or_eq_true, Bool.and_eq_true, decide_eq_true_eq]
  omega
theorem neg_fits (a : Int) (ha : I64 a) : fitsB (0 - a) = (a != -9223372036854775808) := by
  unfold I64 at ha
  unfold fitsB
  rw [Bool.eq_iff_iff]
  simp only [bne_iff_ne, ne_eq, decide_eq_true_eq]
  omega
theorem small_fits (a b : Int) (h1 : a < 2147483648) (h2 : -2147483648 < a) (h3 : b < 2147483648) (h4 : -2147483648 < b) : fitsB (a * b) = true := by
  unfold fitsB
  rw [decide_eq_true_eq]
  have hA : a.natAbs ≤ 2147483647 := by omega
  have hB : b.natAbs ≤ 2147483647 := by omega
  have h := Nat.mul_le_mul hA hB
  rw [← Int.natAbs_mul] at h
  omega
theorem quo_law (a b : Int) (hb : b ≠ 0) : (a * b).tdiv b = a := Int.mul_tdiv_cancel a hb
theorem num_add {a b : Int} (h : fitsB (a + b) = true) : numRz 12 a b = (intV (a + b), 0) := by
  unfold numRz numZ
  rw [if_pos rfl, if_pos h]
theorem num_add_no {a b : Int} (h : ¬ fitsB (a + b) = true) : numRz 12 a b = (nullV, 15) := by
  unfold numRz numZ
  rw [if_pos rfl, if_neg h]
theorem num_sub {a b : Int} (h : fitsB (a - b) = true) : numRz 13 a b = (intV (a - b), 0) := by
  unfold numRz numZ
  rw [if_neg (by decide), if_pos rfl, if_pos h]
theorem num_sub_no {a b : Int} (h : ¬ fitsB (a - b) = true) : numRz 13 a b = (nullV, 15) := by
  unfold numRz numZ
  rw [if_neg (by decide), if_pos rfl, if_neg h]
theorem num_mul {a b : Int} (h : fitsB (a * b) = true) : numRz 14 a b = (intV (a * b), 0) := by
  unfold numRz numZ
  rw [if_neg (by decide), if_neg (by decide), if_pos h]
theorem num_mul_no {a b : Int} (h : ¬ fitsB (a * b) = true) : numRz 14 a b = (nullV, 15) := by
  unfold numRz numZ
  rw [if_neg (by decide), if_neg (by decide), if_neg h]
theorem num_comm (a b : Int) : numRz 14 a b = numRz 14 b a := by
  have e : b * a = a * b := Int.mul_comm b a
  by_cases h : fitsB (a * b) = true
  · rw [num_mul h, num_mul (by rw [e]; exact h), e]
  · rw [num_mul_no h, num_mul_no (by rw [e]; exact h)]
def sumRz (a b : Int) : Rz := if fitsB (a + b) then (truthV true, 0) else (nullV, 15)
theorem sum_add {a b : Int} (h : fitsB (a + b) = true) : sumRz a b = (truthV true, 0) := if_pos h
theorem sum_add_no {a b : Int} (h : ¬ fitsB (a + b) = true) : sumRz a b = (nullV, 15) := if_neg h
theorem evalnS (a b : Int) (ha : I64 a) : evalE sn2 (row2 (intV a) (intV b)) = sumRz a b := evaln2 a b ha
theorem fits_wrap {x : Int} (h : fitsB x = true) : IntKind.i64.wrap x = x := IntWalk.i64_in x (of_decide_eq_true h)
theorem wrap64_of {x y : Int} (h : IntKind.i64.wrap x = y) : wrap64 x = y := by rw [← IntWalk.i64_left]; exact h
theorem fits_wrap64 {x : Int} (h : fitsB x = true) : wrap64 x = x := wrap64_of (fits_wrap h)
theorem top_wrap {b : Int} (hb : I64 b) (h0 : 0 ≤ b) : IntKind.i64.wrap (9223372036854775807 - b) = 9223372036854775807 - b := by
  unfold I64 at hb
  exact IntWalk.i64_in _ (by omega)
theorem low_wrap {b : Int} (hb : I64 b) (h0 : ¬ 0 ≤ b) : IntKind.i64.wrap (-9223372036854775808 - b) = -9223372036854775808 - b := by
  unfold I64 at hb
  exact IntWalk.i64_in _ (by omega)
theorem neg_wrap {a : Int} (h : fitsB (0 - a) = true) : IntKind.i64.wrap (-a) = 0 - a := by
  have := of_decide_eq_true h
  rw [show -a = 0 - a by omega]
  exact IntWalk.i64_in _ (by omega)
def smallB (a b : Int) : Bool := decide (a < 2147483648) && (decide (-2147483648 < a) && (decide (b < 2147483648) && decide (-2147483648 < b)))
theorem small_no {a b : Int} (h : ¬ fitsB (a * b) = true) : smallB a b = false := by
  rw [← Bool.not_eq_true]
  intro hs
  unfold smallB at hs
  simp only [Bool.and_eq_true, decide_eq_true_eq] at hs
  exact h (small_fits a b hs.1 hs.2.1 hs.2.2.1 hs.2.2.2)
theorem same_int (n : Int) : sameV (intV n) (intV n) = true := by
  unfold sameV sameL sameF flatB
  simp
theorem same_null : sameV nullV nullV = true := by
  unfold sameV sameL sameF flatB
  simp
end Go.Proofs.YtgjgllfeinjpnaaGreatDoor
