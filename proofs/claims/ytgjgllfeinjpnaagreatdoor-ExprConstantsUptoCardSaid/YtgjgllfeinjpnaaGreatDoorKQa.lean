import Derived.Test.YtgjgllfeinjpnaaGreatDoorKPk
/- expr.truth, expr.size. -/
namespace Go.Proofs.YtgjgllfeinjpnaaGreatDoor
open Go.RowKit
set_option linter.unusedSimpArgs false
set_option linter.unusedVariables false
theorem truth_calls (b : Bool) (w : World) : Calls Tryz.prog 98 #[.bool b] w fun e w' => e = .returned (.agg #[.int .u8 1, .bool b, .int .i64 0, .string ⟨#[]⟩, .slice none 0 0, .slice none 0 0]) ∧ Below w.heap.size w w' := by
  have hT := heap_last w (.cells #[.int .u8 0, .bool false, .int .i64 0, .string ⟨#[]⟩, .slice none 0 0, .slice none 0 0] 26)
  have hD : Below w.heap.size w (w.alloc (.cells #[.int .u8 0, .bool false, .int .i64 0, .string ⟨#[]⟩, .slice none 0 0, .slice none 0 0] 26)) := (Below.refl _ _).alloc (Nat.le_refl _) _
  go_enter Tryz.func98, Tryz.ntmps98
  go_upto_region 1 with (fail)
  generalize w.alloc (.cells #[.int .u8 0, .bool false, .int .i64 0, .string ⟨#[]⟩, .slice none 0 0, .slice none 0 0] 26) = W at *
  obtain ⟨z0, z1, z2, z3, z4, z5, z6⟩ := cells6 hT
  go_wp2_with fail
  refine bodyPost_ret (v := .agg #[.int .u8 1, .bool b, .int .i64 0, .string ⟨#[]⟩, .slice none 0 0, .slice none 0 0]) (by simp [results, Tryz.results98, go_sem, cell_set_same, z0, z1, z2, z3, z4, z5]) rfl ?_
  exact ⟨rfl, setCells_below (Nat.le_refl _) [_, _, _, _, _, _] 0 _ hD⟩
theorem size_calls (n : Int) (w : World) (hn : I64 n) : Calls Tryz.prog 208 #[.int .i64 n] w fun e w' => e = .returned (.int .u64 (n.natAbs : Int)) ∧ w' = w := by
  unfold I64 at hn
  by_cases h : n < 0
  · have e1 : (n.natAbs : Int) = -n := by omega
    have e2 : IntKind.u64.wrap n = n + 18446744073709551616 := by simp [IntKind.wrap, IntKind.bits, IntKind.signed]; omega
    have e3 : IntKind.u64.wrap (-(n + 18446744073709551616)) = -n := by simp [IntKind.wrap, IntKind.bits, IntKind.signed]; omega
    rw [e1]
    go_enter Tryz.func208, Tryz.ntmps208
    go_wp2_with fail
    go_ret
    exact ⟨by go_num, rfl⟩
  · have e1 : (n.natAbs : Int) = n := by omega
    have e2 : IntKind.u64.wrap n = n := by simp [IntKind.wrap, IntKind.bits, IntKind.signed]; omega
    rw [e1]
    go_enter Tryz.func208, Tryz.ntmps208
    go_wp2_with fail
    go_ret
    exact ⟨by go_num, rfl⟩
end Go.Proofs.YtgjgllfeinjpnaaGreatDoor
/- signs of bitwise and, xor (plain). -/
namespace Go.Proofs.YtgjgllfeinjpnaaGreatDoor
open Go.RowKit
theorem wrap_toNat (r : BitVec 64) : IntKind.i64.wrap r.toNat = r.toInt := by
  rw [BitVec.toInt_eq_toNat_cond]
  have := r.isLt
  simp [IntKind.wrap, IntKind.bits, IntKind.signed]
  split <;> split <;> omega
theorem toInt_nonneg (r : BitVec 64) : (0 ≤ r.toInt) = (r.msb = false) := by
  have h := BitVec.toInt_neg_iff (x := r)
  cases hm : r.msb with
  | true => have := BitVec.msb_eq_toInt (x := r); rw [hm] at this; simp at this; simp; omega
  | false => have := BitVec.msb_eq_toInt (x := r); rw [hm] at this; simp at this; simp; omega
theorem msb_ofInt (x : Int) (h : I64 x) : (BitVec.ofInt 64 x).msb = decide (x < 0) := by
  unfold I64 at h
  rw [BitVec.msb_eq_toInt, BitVec.toInt_ofInt]
  congr 1
  rw [Int.bmod_def]
  simp
  omega
theorem xor_sign (x y : Int) (hx : I64 x) (hy : I64 y) : decide (0 ≤ bits .xor .i64 x y) = (decide (x < 0) == decide (y < 0)) := by
  have e : bits .xor .i64 x y = IntKind.i64.wrap (BitVec.ofInt 64 x ^^^ BitVec.ofInt 64 y).toNat := rfl
  rw [e, wrap_toNat]
  simp only [toInt_nonneg, BitVec.msb_xor, msb_ofInt x hx, msb_ofInt y hy]
  cases decide (x < 0) <;> cases decide (y < 0) <;> rfl
theorem and_sign (x y : Int) (hx : I64 x) (hy : I64 y) : decide (0 ≤ bits .and .i64 x y) = !(decide (x < 0) && decide (y < 0)) := by
  have e : bits .and .i64 x y = IntKind.i64.wrap (BitVec.ofInt 64 x &&& BitVec.ofInt 64 y).toNat := rfl
  rw [e, wrap_toNat]
  simp only [toInt_nonneg, BitVec.msb_and, msb_ofInt x hx, msb_ofInt y hy]
  cases decide (x < 0) <;> cases decide (y < 0) <;> rfl
theorem bits_i64 (op : BinOp) (x y : Int) (r : BitVec 64) (h : bits op .i64 x y = IntKind.i64.wrap r.toNat) : I64 (bits op .i64 x y) := by
  rw [h, wrap_toNat]
  have h1 := BitVec.toInt_lt (x := r)
  have h2 := BitVec.le_toInt (x := r)
  unfold I64
  omega
theorem i64_wrap (x : Int) : I64 (IntKind.i64.wrap x) := by
  unfold I64
  simp [IntKind.wrap, IntKind.bits, IntKind.signed]
  split <;> omega
def fitsB (x : Int) : Bool := decide (-9223372036854775808 ≤ x ∧ x ≤ 9223372036854775807)
theorem add_fits (a b n : Int) (ha : I64 a) (hb : I64 b) (hn : n = IntKind.i64.wrap (a + b)) : decide (0 ≤ bits .and .i64 (bits .xor .i64 a n) (bits .xor .i64 b n)) = fitsB (a + b) := by
  have hi : I64 n := by rw [hn]; exact i64_wrap _
  have h1 := xor_sign a n ha hi
  have h2 := xor_sign b n hb hi
  rw [and_sign _ _ (bits_i64 .xor a n _ rfl) (bits_i64 .xor b n _ rfl)]
  generalize bits .xor .i64 a n = x at *
  generalize bits .xor .i64 b n = y at *
  have hn2 : n = a + b ∨ n = a + b + 18446744073709551616 ∧ a + b < -9223372036854775808 ∨ n = a + b - 18446744073709551616 ∧ 9223372036854775807 < a + b := by
    unfold I64 at ha hb
    rw [hn]
    simp [IntKind.wrap, IntKind.bits, IntKind.signed]
    split <;> omega
  unfold I64 at ha hb hi
  clear hn
  unfold fitsB
  rw [Bool.eq_iff_iff] at h1 h2 ⊢
  simp only [beq_iff_eq, decide_eq_decide, decide_eq_true_eq, Bool.not_eq_true', Bool.and_eq_false_iff, decide_eq_false_iff_not] at h1 h2 ⊢
  omega
theorem sub_fits (a b n : Int) (ha : I64 a) (hb : I64 b) (hn : n = IntKind.i64.wrap (a - b)) : decide (0 ≤ bits .and .i64 (bits .xor .i64 a b) (bits .xor .i64 a n)) = fitsB (a - b) := by
  have hi : I64 n := by rw [hn]; exact i64_wrap _
  have h1 := xor_sign a b ha hb
  have h2 := xor_sign a n ha hi
  rw [and_sign _ _ (bits_i64 .xor a b _ rfl) (bits_i64 .xor a n _ rfl)]
  generalize bits .xor .i64 a b = x at *
  generalize bits .xor .i64 a n = y at *
  have hn2 : n = a - b ∨ n = a - b + 18446744073709551616 ∧ a - b < -9223372036854775808 ∨ n = a - b - 18446744073709551616 ∧ 9223372036854775807 < a - b := by
    unfold I64 at ha hb
    rw [hn]
    simp [IntKind.wrap, IntKind.bits, IntKind.signed]
    split <;> omega
  unfold I64 at ha hb hi
  clear hn
  unfold fitsB
  rw [Bool.eq_iff_iff] at h1 h2 ⊢
  simp only [beq_iff_eq, decide_eq_decide, decide_eq_true_eq, Bool.not_eq_true', Bool.and_eq_false_iff, decide_eq_false_iff_not] at h1 h2 ⊢
  omega
end Go.Proofs.YtgjgllfeinjpnaaGreatDoor
/- expr.number. -/
namespace Go.Proofs.YtgjgllfeinjpnaaGreatDoor
open Go.RowKit
set_option linter.unusedSimpArgs false
set_option linter.unusedVariables false
theorem number_add (a b : Int) (w : World) (ha : I64 a) (hb : I64 b) : Calls Tryz.prog 205 #[.int .u8 12, .int .i64 a, .int .i64 b] w fun e w' => e = .returned (.tuple #[.int .i64 (IntKind.i64.wrap (a + b)), .bool (fitsB (a + b))]) ∧ w' = w := by
  obtain ⟨n, hn⟩ : ∃ n, n = IntKind.i64.wrap (a + b) := ⟨_, rfl⟩
  have hf := add_fits a b n ha hb hn
  have HN := Lib.hid hn
  have hn' := hn.symm
  rw [hn'] 
  generalize fitsB (a + b) = z at *
  clear ha hb hn
  go_enter Tryz.func205, Tryz.ntmps205
  go_wp2_with fail
  go_ret2
  exact ⟨by simp [hn', hf], rfl⟩
theorem number_sub (a b : Int) (w : World) (ha : I64 a) (hb : I64 b) : Calls Tryz.prog 205 #[.int .u8 13, .int .i64 a, .int .i64 b] w fun e w' => e = .returned (.tuple #[.int .i64 (IntKind.i64.wrap (a - b)), .bool (fitsB (a - b))]) ∧ w' = w := by
  obtain ⟨n, hn⟩ : ∃ n, n = IntKind.i64.wrap (a - b) := ⟨_, rfl⟩
  have hf := sub_fits a b n ha hb hn
  have hn' := hn.symm
  rw [hn']
  generalize fitsB (a - b) = z at *
  clear ha hb hn
  go_enter Tryz.func205, Tryz.ntmps205
  go_wp2_with fail
  go_ret2
  exact ⟨by simp [hn', hf], rfl⟩
end Go.Proofs.YtgjgllfeinjpnaaGreatDoor
