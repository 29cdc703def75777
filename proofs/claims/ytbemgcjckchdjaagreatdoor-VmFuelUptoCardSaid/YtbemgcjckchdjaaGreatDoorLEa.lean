import Derived.Test.YtbemgcjckchdjaaGreatDoorLPv
import Derived.Test.YtbemgcjckchdjaaGreatDoorLQa
import Derived.Test.YtbemgcjckchdjaaGreatDoorLVn
/- What expressions come to, in plain Lean: a stack of results. No program in sight. -/
namespace Go.Proofs.YtbemgcjckchdjaaGreatDoor
open Go.RowKit
set_option linter.unusedSimpArgs false
set_option linter.unusedVariables false
abbrev Rz := VT × Int
abbrev Ez : ByteArray := ⟨#[]⟩
abbrev Am : VT := .mk 0 false 0 Ez .nil .nil
abbrev AK (b : Bool) : VT := .mk 1 b 0 Ez .nil .nil
abbrev CQ (n : Int) : VT := .mk 2 false n Ez .nil .nil
abbrev Kk (s : ByteArray) : VT := .mk 3 false 0 s .nil .nil
abbrev Kh (l : VL) : VT := .mk 5 false 0 Ez l .nil
abbrev Eg (f : FL) : VT := .mk 6 false 0 Ez .nil f
def VT.kind : VT → Int | .mk k _ _ _ _ _ => k
def VT.bool : VT → Bool | .mk _ b _ _ _ _ => b
def VT.num : VT → Int | .mk _ _ n _ _ _ => n
def Au : List VT → VL
 | [] => .nil
 | v :: r => .cons v (Au r)
def S2 (name : ByteArray) (x : VT) : FL → FL
 | .nil => .nil
 | .cons s t r => if s.toList == name.toList then .cons s x r else .cons s t (S2 name x r)
def CP (name : ByteArray) (x : VT) : FL → FL
 | .nil => .cons name x .nil
 | .cons s t r => if Op.bytesLess name.toList s.toList then .cons name x (.cons s t r) else .cons s t (CP name x r)
def Nb (f : FL) (name : ByteArray) (x : VT) : FL := if 0 ≤ BS name f 0 then S2 name x f else CP name x f
def BO : FL → List ByteArray → List VT → FL
 | f, n :: ns, v :: vs => BO (Nb f n v) ns vs
 | f, _, _ => f
def AV : List Rz → Except Int (List VT)
 | [] => .ok []
 | r :: l => if r.2 ≠ 0 then .error r.2 else match AV l with | .error e => .error e | .ok vs => .ok (r.1 :: vs)
def C3 (v : VT) : Rz := if Ao v 0 = 0 then (v, 0) else (Am, Ao v 0)
def Cb (names : Option (List ByteArray)) (l : List Rz) : Rz := match AV l with
 | .error e => (Am, e)
 | .ok vs => C3 (match names with | none => Kh (Au vs) | some ns => Eg (BO .nil ns vs))
def A4 (r : Rz) : Rz := if r.2 ≠ 0 then (Am, r.2) else if 1 < r.1.kind then (Am, 5) else r
def B3 (o : Bool) (a b : Rz) : Rz :=
 if (A4 a).2 ≠ 0 || (A4 a).1.bool == o then A4 a
 else if (A4 b).2 = 0 && o && !(A4 b).1.bool && (A4 a).1.kind = 0 then ((A4 a).1, 0) else A4 b
def MS (k a b : Int) : Option Int :=
 if k = 12 then (if AZ (a + b) then some (a + b) else none)
 else if k = 13 then (if AZ (a - b) then some (a - b) else none)
 else (if AZ (a * b) then some (a * b) else none)
def BF (k : Int) (a b : VT) : Rz := if a.kind = 2 ∧ b.kind = 2 then (match MS k a.num b.num with | some n => (CQ n, 0) | none => (Am, 15)) else (Am, 5)
def DT (k : Int) (a b : VT) : Rz :=
 if k = 15 then (AK (decide (BJ a b = 0)), 0)
 else if k = 16 then (AK (decide (BJ a b ≠ 0)), 0)
 else if a.kind ≠ b.kind ∨ 5 ≤ a.kind then (Am, 5)
 else if k = 17 then (AK (decide (BJ a b < 0)), 0)
 else if k = 18 then (AK (decide (BJ a b < 1)), 0)
 else if k = 19 then (AK (decide (0 < BJ a b)), 0)
 else (AK (decide (-1 < BJ a b)), 0)
def Dm (k : Int) (l : List Rz) : Rz := match AV l with
 | .error e => (Am, e)
 | .ok vs =>
   if k = 11 then (AK (vs.any fun v => v.kind == 0), 0)
   else if vs.any fun v => v.kind == 0 then (Am, 0)
   else if k = 9 then BF 13 (CQ 0) (vs.getD 0 Am)
   else if k = 10 then (if (vs.getD 0 Am).kind = 1 then (AK (!(vs.getD 0 Am).bool), 0) else (Am, 5))
   else if k ≤ 14 then BF k (vs.getD 0 Am) (vs.getD 1 Am)
   else DT k (vs.getD 0 Am) (vs.getD 1 Am)
def Cf : ByteArray := ⟨#[44]⟩
def dot : ByteArray := ⟨#[46]⟩
def F0 (s : ST) (row : VT) : Rz :=
 if s.k = 2 ∨ s.k = 3 then (AK (s.k == 2), 0)
 else if s.k = 4 then (CQ s.n, 0)
 else if s.k = 5 then (Kk s.t, 0)
 else if s.k = 6 then ((B5 row (Aw s.t dot)).getD Am, 0)
 else (Am, 0)
def AX (s : ST) (row : VT) (l : List Rz) : Rz :=
 if s.k = 7 then Cb none l
 else if s.k = 8 then Cb (some (Aw s.t Cf)) l
 else if s.k = 21 ∨ s.k = 22 then B3 (s.k == 22) (l.getD 0 (Am, 0)) (l.getD 1 (Am, 0))
 else if l.isEmpty then F0 s row
 else Dm s.k l
def BV (row : VT) (stk : List Rz) (s : ST) : List Rz := stk.take (stk.length - s.takes.toNat) ++ [AX s row (stk.drop (stk.length - s.takes.toNat))]
def B4 (row : VT) (l : List ST) (stk : List Rz) : List Rz := l.foldl (BV row) stk
def Bm (row : VT) (l : List ST) : Rz := (B4 row l []).getD 0 (Am, 0)
def Bj (l : List ST) (row : VT) : Rz :=
 if Av l then (if Ao row 0 = 0 then Bm row l else (Am, Ao row 0)) else (Am, 13)
def Fg (l : List ST) (row : VT) : Bool × Int :=
 if l.length = 0 then (decide (Ao row 0 = 0), Ao row 0)
 else if (Bj l row).2 = 0 ∧ 1 < (Bj l row).1.kind then (false, 5) else ((Bj l row).1.bool, (Bj l row).2)
/- expr.number: products. -/
set_option maxHeartbeats 1000000 in
set_option maxRecDepth 100000 in
theorem Rq (k a b A B H L : Int) (z y : Int) (w : World) (k1 : (k == 12) = false) (k2 : (k == 13) = false) (ha : ∀ w', Calls Tryz.prog 229 #[.int .i64 a] w' fun e w2 => e = .returned (.int .u64 A) ∧ w2 = w') (hb : ∀ w', Calls Tryz.prog 229 #[.int .i64 b] w' fun e w2 => e = .returned (.int .u64 B) ∧ w2 = w')
  (hm : ∀ w', Calls Tryz.prog 228 #[.int .u64 A, .int .u64 B] w' fun e w2 => e = .returned (.tuple #[.int .u64 H, .int .u64 L]) ∧ w2 = w') (h1 : decide (0 < H) = true) (x1 : IntKind.i64.wrap L = z) (x2 : IntKind.i64.wrap (-z) = y) :
  Calls Tryz.prog 226 #[.int .u8 k, .int .i64 a, .int .i64 b] w fun e w' => e = .returned (.tuple #[.int .i64 0, .bool false]) ∧ w' = w := by
 have HA := Lib.hid ha
 have HB := Lib.hid hb
 have HM := Lib.hid hm
 clear ha hb hm
 go_enter Tryz.func226, Tryz.ntmps226
 go_wp2_with (first | (go_at_call 228; refine (HM.out _).mono ?_; rintro e w2 ⟨rfl, rfl⟩) | (go_at_call 229; ((with_reducible refine (HA.out _).mono ?_); rintro e w2 ⟨rfl, rfl⟩)) | (go_at_call 229; ((with_reducible refine (HB.out _).mono ?_); rintro e w2 ⟨rfl, rfl⟩)))
 go_ret2
 exact ⟨by first | rfl | simp [x1, x2], rfl⟩
set_option maxHeartbeats 1000000 in
set_option maxRecDepth 100000 in
theorem P8 (k a b A B H L : Int) (z y : Int) (w : World) (k1 : (k == 12) = false) (k2 : (k == 13) = false) (ha : ∀ w', Calls Tryz.prog 229 #[.int .i64 a] w' fun e w2 => e = .returned (.int .u64 A) ∧ w2 = w') (hb : ∀ w', Calls Tryz.prog 229 #[.int .i64 b] w' fun e w2 => e = .returned (.int .u64 B) ∧ w2 = w')
  (hm : ∀ w', Calls Tryz.prog 228 #[.int .u64 A, .int .u64 B] w' fun e w2 => e = .returned (.tuple #[.int .u64 H, .int .u64 L]) ∧ w2 = w') (h1 : decide (0 < H) = false) (h2 : decide (9223372036854775808 < L) = true) (x1 : IntKind.i64.wrap L = z) (x2 : IntKind.i64.wrap (-z) = y) :
  Calls Tryz.prog 226 #[.int .u8 k, .int .i64 a, .int .i64 b] w fun e w' => e = .returned (.tuple #[.int .i64 0, .bool false]) ∧ w' = w := by
 have HA := Lib.hid ha
 have HB := Lib.hid hb
 have HM := Lib.hid hm
 clear ha hb hm
 go_enter Tryz.func226, Tryz.ntmps226
 go_wp2_with (first | (go_at_call 228; refine (HM.out _).mono ?_; rintro e w2 ⟨rfl, rfl⟩) | (go_at_call 229; ((with_reducible refine (HA.out _).mono ?_); rintro e w2 ⟨rfl, rfl⟩)) | (go_at_call 229; ((with_reducible refine (HB.out _).mono ?_); rintro e w2 ⟨rfl, rfl⟩)))
 go_ret2
 exact ⟨by first | rfl | simp [x1, x2], rfl⟩
set_option maxHeartbeats 1000000 in
set_option maxRecDepth 100000 in
theorem P9 (k a b A B H L : Int) (z y : Int) (w : World) (k1 : (k == 12) = false) (k2 : (k == 13) = false) (ha : ∀ w', Calls Tryz.prog 229 #[.int .i64 a] w' fun e w2 => e = .returned (.int .u64 A) ∧ w2 = w') (hb : ∀ w', Calls Tryz.prog 229 #[.int .i64 b] w' fun e w2 => e = .returned (.int .u64 B) ∧ w2 = w')
  (hm : ∀ w', Calls Tryz.prog 228 #[.int .u64 A, .int .u64 B] w' fun e w2 => e = .returned (.tuple #[.int .u64 H, .int .u64 L]) ∧ w2 = w') (h1 : decide (0 < H) = false) (h2 : decide (9223372036854775808 < L) = false) (h3 : (L == 9223372036854775808) = true) (hmn : (decide (a < 0) == decide (b < 0)) = true) (x1 : IntKind.i64.wrap L = z) (x2 : IntKind.i64.wrap (-z) = y) :
  Calls Tryz.prog 226 #[.int .u8 k, .int .i64 a, .int .i64 b] w fun e w' => e = .returned (.tuple #[.int .i64 0, .bool false]) ∧ w' = w := by
 have HA := Lib.hid ha
 have HB := Lib.hid hb
 have HM := Lib.hid hm
 clear ha hb hm
 go_enter Tryz.func226, Tryz.ntmps226
 go_wp2_with (first | (go_at_call 228; refine (HM.out _).mono ?_; rintro e w2 ⟨rfl, rfl⟩) | (go_at_call 229; ((with_reducible refine (HA.out _).mono ?_); rintro e w2 ⟨rfl, rfl⟩)) | (go_at_call 229; ((with_reducible refine (HB.out _).mono ?_); rintro e w2 ⟨rfl, rfl⟩)))
 go_ret2
 exact ⟨by first | rfl | simp [x1, x2], rfl⟩
set_option maxHeartbeats 1000000 in
set_option maxRecDepth 100000 in
theorem NV (k a b A B H L : Int) (z y : Int) (w : World) (k1 : (k == 12) = false) (k2 : (k == 13) = false) (ha : ∀ w', Calls Tryz.prog 229 #[.int .i64 a] w' fun e w2 => e = .returned (.int .u64 A) ∧ w2 = w') (hb : ∀ w', Calls Tryz.prog 229 #[.int .i64 b] w' fun e w2 => e = .returned (.int .u64 B) ∧ w2 = w')
  (hm : ∀ w', Calls Tryz.prog 228 #[.int .u64 A, .int .u64 B] w' fun e w2 => e = .returned (.tuple #[.int .u64 H, .int .u64 L]) ∧ w2 = w') (h1 : decide (0 < H) = false) (h2 : decide (9223372036854775808 < L) = false) (h3 : (L == 9223372036854775808) = true) (hmn : (decide (a < 0) == decide (b < 0)) = false) (x1 : IntKind.i64.wrap L = z) (x2 : IntKind.i64.wrap (-z) = y) :
  Calls Tryz.prog 226 #[.int .u8 k, .int .i64 a, .int .i64 b] w fun e w' => e = .returned (.tuple #[.int .i64 y, .bool true]) ∧ w' = w := by
 have HA := Lib.hid ha
 have HB := Lib.hid hb
 have HM := Lib.hid hm
 clear ha hb hm
 go_enter Tryz.func226, Tryz.ntmps226
 go_wp2_with (first | (go_at_call 228; refine (HM.out _).mono ?_; rintro e w2 ⟨rfl, rfl⟩) | (go_at_call 229; ((with_reducible refine (HA.out _).mono ?_); rintro e w2 ⟨rfl, rfl⟩)) | (go_at_call 229; ((with_reducible refine (HB.out _).mono ?_); rintro e w2 ⟨rfl, rfl⟩)))
 go_ret2
 exact ⟨by first | rfl | simp [x1, x2], rfl⟩
set_option maxHeartbeats 1000000 in
set_option maxRecDepth 100000 in
theorem NW (k a b A B H L : Int) (z y : Int) (w : World) (k1 : (k == 12) = false) (k2 : (k == 13) = false) (ha : ∀ w', Calls Tryz.prog 229 #[.int .i64 a] w' fun e w2 => e = .returned (.int .u64 A) ∧ w2 = w') (hb : ∀ w', Calls Tryz.prog 229 #[.int .i64 b] w' fun e w2 => e = .returned (.int .u64 B) ∧ w2 = w')
  (hm : ∀ w', Calls Tryz.prog 228 #[.int .u64 A, .int .u64 B] w' fun e w2 => e = .returned (.tuple #[.int .u64 H, .int .u64 L]) ∧ w2 = w') (h1 : decide (0 < H) = false) (h2 : decide (9223372036854775808 < L) = false) (h3 : (L == 9223372036854775808) = false) (hmn : (decide (a < 0) == decide (b < 0)) = false) (x1 : IntKind.i64.wrap L = z) (x2 : IntKind.i64.wrap (-z) = y) :
  Calls Tryz.prog 226 #[.int .u8 k, .int .i64 a, .int .i64 b] w fun e w' => e = .returned (.tuple #[.int .i64 y, .bool true]) ∧ w' = w := by
 have HA := Lib.hid ha
 have HB := Lib.hid hb
 have HM := Lib.hid hm
 clear ha hb hm
 go_enter Tryz.func226, Tryz.ntmps226
 go_wp2_with (first | (go_at_call 228; refine (HM.out _).mono ?_; rintro e w2 ⟨rfl, rfl⟩) | (go_at_call 229; ((with_reducible refine (HA.out _).mono ?_); rintro e w2 ⟨rfl, rfl⟩)) | (go_at_call 229; ((with_reducible refine (HB.out _).mono ?_); rintro e w2 ⟨rfl, rfl⟩)))
 go_ret2
 exact ⟨by first | rfl | simp [x1, x2], rfl⟩
set_option maxHeartbeats 1000000 in
set_option maxRecDepth 100000 in
theorem PA (k a b A B H L : Int) (z y : Int) (w : World) (k1 : (k == 12) = false) (k2 : (k == 13) = false) (ha : ∀ w', Calls Tryz.prog 229 #[.int .i64 a] w' fun e w2 => e = .returned (.int .u64 A) ∧ w2 = w') (hb : ∀ w', Calls Tryz.prog 229 #[.int .i64 b] w' fun e w2 => e = .returned (.int .u64 B) ∧ w2 = w')
  (hm : ∀ w', Calls Tryz.prog 228 #[.int .u64 A, .int .u64 B] w' fun e w2 => e = .returned (.tuple #[.int .u64 H, .int .u64 L]) ∧ w2 = w') (h1 : decide (0 < H) = false) (h2 : decide (9223372036854775808 < L) = false) (h3 : (L == 9223372036854775808) = false) (hmn : (decide (a < 0) == decide (b < 0)) = true) (x1 : IntKind.i64.wrap L = z) (x2 : IntKind.i64.wrap (-z) = y) :
  Calls Tryz.prog 226 #[.int .u8 k, .int .i64 a, .int .i64 b] w fun e w' => e = .returned (.tuple #[.int .i64 z, .bool true]) ∧ w' = w := by
 have HA := Lib.hid ha
 have HB := Lib.hid hb
 have HM := Lib.hid hm
 clear ha hb hm
 go_enter Tryz.func226, Tryz.ntmps226
 go_wp2_with (first | (go_at_call 228; refine (HM.out _).mono ?_; rintro e w2 ⟨rfl, rfl⟩) | (go_at_call 229; ((with_reducible refine (HA.out _).mono ?_); rintro e w2 ⟨rfl, rfl⟩)) | (go_at_call 229; ((with_reducible refine (HB.out _).mono ?_); rintro e w2 ⟨rfl, rfl⟩)))
 go_ret2
 exact ⟨by first | rfl | simp [x1, x2], rfl⟩
/- expr.number: a sum, a difference, a product. -/
theorem O8 {a b : Int} (h : (decide (a < 0) == decide (b < 0)) = true) : 0 ≤ a * b := by
 simp only [beq_iff_eq, decide_eq_decide] at h
 by_cases ha : a < 0
 · exact Int.mul_nonneg_of_nonpos_of_nonpos (by omega) (by omega)
 · exact Int.mul_nonneg (by omega) (by omega)
theorem Nk {a b : Int} (h : (decide (a < 0) == decide (b < 0)) = false) : a * b ≤ 0 := by
 rw [beq_eq_false_iff_ne, ne_eq, decide_eq_decide] at h
 by_cases ha : a < 0
 · exact Int.mul_nonpos_of_nonpos_of_nonneg (by omega) (by omega)
 · exact Int.mul_nonpos_of_nonneg_of_nonpos (by omega) (by omega)
def Iw (k a b : Int) : Bool := if k = 12 then AZ (a + b) else if k = 13 then AZ (a - b) else AZ (a * b)
def Hy (k a b : Int) : Int := if k = 12 then IntKind.i64.wrap (a + b) else if k = 13 then IntKind.i64.wrap (a - b) else if AZ (a * b) then a * b else 0
theorem JR {x : Int} (h : AZ x = true) : IntKind.i64.wrap x = x := by
 unfold AZ at h
 have := of_decide_eq_true h
 exact IntWalk.i64_in _ (by omega)
theorem Rt (k a b : Int) : MS k a b = if Iw k a b then some (Hy k a b) else none := by
 unfold MS Iw Hy
 by_cases h1 : k = 12
 · simp only [if_pos h1]
   cases hf : AZ (a + b) with
   | true => simp [JR hf]
   | false => simp
 · simp only [if_neg h1]
   by_cases h2 : k = 13
   · simp only [if_pos h2]
     cases hf : AZ (a - b) with
     | true => simp [JR hf]
     | false => simp
   · simp only [if_neg h2]
     cases hf : AZ (a * b) with
     | true => simp
     | false => simp
theorem Pw {x : Int} (h : AZ x = true) : I64 x := by
 unfold AZ at h
 unfold I64
 simpa using h
theorem PJ (k a b : Int) : I64 (Hy k a b) := by
 unfold Hy
 split
 · exact Fv _
 · split
   · exact Fv _
   · split
     · rename_i h; exact Pw h
     · unfold I64; omega
theorem PK (k a b : Int) (w : World) (hk : k = 12 ∨ k = 13 ∨ k = 14) (ha : I64 a) (hb : I64 b) : Calls Tryz.prog 226 #[.int .u8 k, .int .i64 a, .int .i64 b] w fun e w' => e = .returned (.tuple #[.int .i64 (Hy k a b), .bool (Iw k a b)]) ∧ w' = w := by
 rcases hk with rfl | rfl | rfl
 · exact MT a b w ha hb
 · exact MV a b w ha hb
 · have e1 : Hy 14 a b = if AZ (a * b) then a * b else 0 := rfl
   have e2 : Iw 14 a b = AZ (a * b) := rfl
   rw [e1, e2]
   have hA := fun w' => I3 a w' ha
   have hB := fun w' => I3 b w' hb
   have hM := fun w' => Tryz.bits_Mul64 a.natAbs b.natAbs (by unfold I64 at ha; omega) (by unfold I64 at hb; omega) w'
   have hP : (a * b).natAbs = a.natAbs * b.natAbs := Int.natAbs_mul a b
   rw [← hP] at hM
   obtain ⟨c, hc⟩ : ∃ c, a * b = c := ⟨_, rfl⟩
   rw [hc] at hM ⊢
   clear hP e1 e2
   have k1 : ((14 : Int) == 12) = false := rfl
   have k2 : ((14 : Int) == 13) = false := rfl
   have sg := @O8 a b
   have so := @Nk a b
   rw [hc] at sg so
   obtain ⟨P, hPc⟩ : ∃ P, c.natAbs = P := ⟨_, rfl⟩
   rw [hPc] at hM
   have hmd : (P / 18446744073709551616) * 18446744073709551616 + P % 18446744073709551616 = P := by omega
   obtain ⟨hi, hhi⟩ : ∃ h, P / 18446744073709551616 = h := ⟨_, rfl⟩
   obtain ⟨lo, hlo⟩ : ∃ h, P % 18446744073709551616 = h := ⟨_, rfl⟩
   have hlt : lo < 18446744073709551616 := by rw [← hlo]; omega
   have hM' : ∀ w', Calls Tryz.prog 228 #[.int .u64 (a.natAbs : Int), .int .u64 (b.natAbs : Int)] w' fun e w2 => e = .returned (.tuple #[.int .u64 (hi : Int), .int .u64 (lo : Int)]) ∧ w2 = w' := fun w' => (hM w').mono fun e w2 h => by
     rw [← hhi, ← hlo]; exact h
   rw [hhi, hlo] at hmd
   clear hM hhi hlo
   by_cases g1 : (0 : Int) < hi
   · have hf : AZ c = false := by unfold AZ; simp; omega
     refine (Rq 14 a b a.natAbs b.natAbs hi lo _ _ w k1 k2 hA hB hM' (by simpa using g1) rfl rfl).mono ?_
     rintro e w' ⟨rfl, rfl⟩
     exact ⟨by rw [hf]; rfl, rfl⟩
   have g1' : decide ((0 : Int) < hi) = false := by simpa using g1
   by_cases g2 : (9223372036854775808 : Int) < lo
   · have hf : AZ c = false := by unfold AZ; simp; omega
     refine (P8 14 a b a.natAbs b.natAbs hi lo _ _ w k1 k2 hA hB hM' g1' (by simpa using g2) rfl rfl).mono ?_
     rintro e w' ⟨rfl, rfl⟩
     exact ⟨by rw [hf]; rfl, rfl⟩
   have g2' : decide ((9223372036854775808 : Int) < lo) = false := by simpa using g2
   cases hs : (decide (a < 0) == decide (b < 0)) with
   | true =>
     have hpos := sg hs
     by_cases g3 : (lo : Int) = 9223372036854775808
     · have hf : AZ c = false := by unfold AZ; simp; omega
       refine (P9 14 a b a.natAbs b.natAbs hi lo _ _ w k1 k2 hA hB hM' g1' g2' (by simpa using g3) hs rfl rfl).mono ?_
       rintro e w' ⟨rfl, rfl⟩
       exact ⟨by rw [hf]; rfl, rfl⟩
     · have hf : AZ c = true := by unfold AZ; simp; omega
       have hz : IntKind.i64.wrap (lo : Int) = c := by rw [IntWalk.i64_in _ (by omega)]; omega
       refine (PA 14 a b a.natAbs b.natAbs hi lo c _ w k1 k2 hA hB hM' g1' g2' (by simpa using g3) hs hz rfl).mono ?_
       rintro e w' ⟨rfl, rfl⟩
       exact ⟨by rw [hf]; rfl, rfl⟩
   | false =>
     have hneg := so hs
     have hf : AZ c = true := by unfold AZ; simp; omega
     by_cases g3 : (lo : Int) = 9223372036854775808
     · have hz : IntKind.i64.wrap (lo : Int) = -9223372036854775808 := by rw [g3]; rfl
       have hy : IntKind.i64.wrap (- -9223372036854775808) = c := by
        have : c = -9223372036854775808 := by omega
        rw [this]; rfl
       refine (NV 14 a b a.natAbs b.natAbs hi lo _ c w k1 k2 hA hB hM' g1' g2' (by simpa using g3) hs hz hy).mono ?_
       rintro e w' ⟨rfl, rfl⟩
       exact ⟨by rw [hf]; rfl, rfl⟩
     · have hz : IntKind.i64.wrap (lo : Int) = lo := IntWalk.i64_in _ (by omega)
       have hy : IntKind.i64.wrap (-(lo : Int)) = c := by rw [IntWalk.i64_in _ (by omega)]; omega
       refine (NW 14 a b a.natAbs b.natAbs hi lo _ c w k1 k2 hA hB hM' g1' g2' (by simpa using g3) hs hz hy).mono ?_
       rintro e w' ⟨rfl, rfl⟩
       exact ⟨by rw [hf]; rfl, rfl⟩
/- Rows of values asked by a function value: slices.IndexFunc, ContainsFunc Cp values. -/
def ValRow (w : World) (l : VL) (a : Option Addr) : Prop := l.len = 0 ∨ ∃ b o, a = some ⟨b, o, none⟩ ∧ b < w.heap.size ∧ RL w 0 w.heap.size l b o
theorem ValRow.keep {w w' : World} {l : VL} {a : Option Addr} (h : ValRow w l a) (hb : Below w.heap.size w w') : ValRow w' l a := by
 rcases h with h | ⟨b, o, e, hlt, hr⟩
 · exact Or.inl h
 · exact Or.inr ⟨b, o, e, Nat.lt_of_lt_of_le hlt hb.size, RL.keep (Same.of_below hb) (Nat.le_refl _) hb.size l b o hlt hr⟩
theorem RV.grow {w w' : World} {t : VT} {cs : List Value} (h : RV w 0 w.heap.size t cs) (hb : Below w.heap.size w w') : RV w' 0 w'.heap.size t cs := RV.keep (Same.of_below hb) (Nat.le_refl _) hb.size t cs h
def Mx (fo : FuncId) (g : VT → Bool) : Prop := (∀ (args : Array Value) (w : World), (callFunc fo args).run Tryz.prog w = .ok (.enter fo args) w) ∧ ∀ (t : VT) (v0 v1 v2 v3 v4 v5 : Value) (w : World), RV w 0 w.heap.size t [v0, v1, v2, v3, v4, v5] → Calls Tryz.prog fo #[.agg #[v0, v1, v2, v3, v4, v5]] w fun e w' => e = .returned (.bool (g t)) ∧ Below w.heap.size w w'
theorem LB : Mx 221 (fun v => v.kind == 0) := by
 refine ⟨fun args w => Tryz.call221 args w, fun t v0 v1 v2 v3 v4 v5 w hv => ?_⟩
 obtain ⟨k, b, n, s, l, f, a1, c1, a2, c2, rfl, e, hl, hf, _⟩ := RV.mk_parts hv
 simp only [List.cons.injEq, and_true] at e
 obtain ⟨rfl, rfl, rfl, rfl, rfl, rfl⟩ := e
 show Calls Tryz.prog 221 _ w fun e w' => e = .returned (.bool (k == 0)) ∧ Below w.heap.size w w'
 clear hv
 go_enter Tryz.func221, Tryz.ntmps221
 go_wp2_with fail
 go_ret
 exact ⟨rfl, Ad _⟩
theorem GV : Mx 225 (fun v => !(v.kind == 2)) := by
 refine ⟨fun args w => Tryz.call225 args w, fun t v0 v1 v2 v3 v4 v5 w hv => ?_⟩
 obtain ⟨k, b, n, s, l, f, a1, c1, a2, c2, rfl, e, hl, hf, _⟩ := RV.mk_parts hv
 simp only [List.cons.injEq, and_true] at e
 obtain ⟨rfl, rfl, rfl, rfl, rfl, rfl⟩ := e
 show Calls Tryz.prog 225 _ w fun e w' => e = .returned (.bool (!(k == 2))) ∧ Below w.heap.size w w'
 clear hv
 go_enter Tryz.func225, Tryz.ntmps225
 go_wp2_with fail
 go_ret
 exact ⟨rfl, Ad _⟩
def EV (g : VT → Bool) : VL → Nat → Int
 | .nil, _ => -1
 | .cons t r, i => if g t then i else EV g r (i + 1)
def VL.any (g : VT → Bool) : VL → Bool
 | .nil => false
 | .cons t r => g t || r.any g
theorem KH (g : VT → Bool) : ∀ (l : VL) (i : Nat), decide (0 ≤ EV g l i) = l.any g
 | .nil, i => rfl
 | .cons t r, i => by
   unfold EV VL.any
   cases g t with
   | true => simp
   | false => simpa using KH g r (i + 1)
theorem Ku (g : VT → Bool) : ∀ l : List VT, (Au l).any g = l.any g
 | [] => rfl
 | t :: r => by show (g t || (Au r).any g) = (g t || r.any g); rw [Ku g r]
theorem CH : ∀ l : List VT, (Au l).len = l.length
 | [] => rfl
 | t :: r => by show (Au r).len + 1 = r.length + 1; rw [CH r]
set_option maxHeartbeats 1000000 in
set_option maxRecDepth 100000 in
theorem KI (fo : FuncId) (g : VT → Bool) (hg : Mx fo g) (l : VL) (a : Option Addr) (c : Nat) (w : World) (hlen : l.len ≤ LIM) (hr : ValRow w l a) :
  Calls Tryz.prog 224 #[.slice a l.len c, .func (.func fo) #[] #[]] w fun e w' => e = .returned (.int .i64 (EV g l 0)) ∧ Below w.heap.size w w' := by
 obtain ⟨z, hz⟩ : ∃ z, EV g l 0 = z := ⟨_, rfl⟩
 rw [hz]
 have HZ : Hid (EV g (l.drop 0) 0 = z) := Lib.hid (by cases l <;> exact hz)
 have HR := Lib.hid hr
 have HG := Lib.hid hg
 have hcf := hg.1
 unfold LIM at hlen
 clear hz hr hg
 go_enter Tryz.func224, Tryz.ntmps224
 go_wp2_with fail
 go_loopw [8] (fun s8 wr => ∃ i : Nat, s8 = .int .i64 i ∧ i ≤ l.len ∧ Hid (EV g (l.drop i) i = z) ∧ Below w.heap.size w wr) (fun s8 _ => l.len - (intOf s8).toNat)
 case atStart => exact ⟨0, rfl, Nat.zero_le _, HZ, Below.refl _ _⟩
 case round =>
  obtain ⟨i, rfl, hil, HH, hx⟩ := hrel
  have HX := Lib.hid hx
  clear hx HZ
  by_cases hlt : i < l.len
  · rcases HR.out.keep HX.out with h0 | ⟨b, o, rfl, hb2, hc⟩
    · omega
    obtain ⟨t, ht⟩ := VL.get?_lt l i hlt
    obtain ⟨v0, v1, v2, v3, v4, v5, d0, d1, d2, d3, d4, d5, hv⟩ := RL.at l b o i t hc ht
    have hh := HH.out
    rw [VL.drop_step l i t ht, EV] at hh
    obtain ⟨k, bb, n, s, l', f, a1, c1, a2, c2, rfl, e, hl, hf, _⟩ := RV.mk_parts hv
    simp only [List.cons.injEq, and_true] at e
    obtain ⟨rfl, rfl, rfl, rfl, rfl, rfl⟩ := e
    have HN := Lib.hid (HG.out.2 _ _ _ _ _ _ _ wr hv)
    clear hc HH hv ht hl hf
    generalize g (.mk k bb n s l' f) = y at *
    cases y with
    | false =>
      rw [if_neg (by simp)] at hh
      have HHH := Lib.hid hh
      clear hh
      go_wp2_with ((with_reducible refine (HN.out).mono ?_); rintro e w7 ⟨rfl, hb⟩)
      go_roundw
      case rel => exact ⟨i + 1, by go_num, by omega, HHH, Aa HX.out HX.out.size hb⟩
      case measure => simp [intOf]; omega
    | true =>
      rw [if_pos rfl] at hh
      have HHH := Lib.hid hh
      clear hh
      go_wp2_with ((with_reducible refine (HN.out).mono ?_); rintro e w7 ⟨rfl, hb⟩)
      go_ret
      exact ⟨Bc HHH.out, Aa HX.out HX.out.size hb⟩
  · have hh := HH.out
    rw [VL.drop_len l i (by omega), EV] at hh
    have HHH := Lib.hid hh
    clear hh HH
    go_wp2_with fail
    go_ret
    exact ⟨Bc HHH.out, HX.out⟩
theorem Dj (fo : FuncId) (g : VT → Bool) (hg : Mx fo g) (l : VL) (a : Option Addr) (c : Nat) (w : World) (hlen : l.len ≤ LIM) (hr : ValRow w l a) :
  Calls Tryz.prog 220 #[.slice a l.len c, .func (.func fo) #[] #[]] w fun e w' => e = .returned (.bool (l.any g)) ∧ Below w.heap.size w w' := by
 have H := Lib.hid (KI fo g hg l a c w hlen hr)
 have HE := Lib.hid (KH g l 0)
 generalize EV g l 0 = z at *
 clear hlen hr hg
 go_enter Tryz.func220, Tryz.ntmps220
 go_wp2_with (go_at_call 224; refine (H.out).mono ?_; rintro e w7 ⟨rfl, hb⟩)
 go_ret
 exact ⟨Ec HE.out, hb⟩
/- expr.counted, expr.held. -/
abbrev Bs : Value := .agg #[.int .u8 0, .bool false, .int .i64 0, .string ⟨#[]⟩, .slice none 0 0, .slice none 0 0]
abbrev Ah : Obj := .cells #[.int .u8 0, .bool false, .int .i64 0, .string ⟨#[]⟩, .slice none 0 0, .slice none 0 0] 27
def EvPost (w : World) (r : Rz) (x : Ending) (w' : World) : Prop :=
 Below w.heap.size w w' ∧ ∃ v0 v1 v2 v3 v4 v5, x = .returned (.tuple #[.agg #[v0, v1, v2, v3, v4, v5], .int .i64 r.2]) ∧ RV w' w.heap.size w'.heap.size r.1 [v0, v1, v2, v3, v4, v5]
theorem Mu (w : World) {lo hi : Nat} : RV w lo hi Am [.int .u8 0, .bool false, .int .i64 0, .string ⟨#[]⟩, .slice none 0 0, .slice none 0 0] := by
 unfold RV
 exact ⟨none, 0, none, 0, rfl, by omega, by unfold I64; omega, by decide, by decide, by decide, by decide, by decide, Or.inl rfl, Or.inl rfl⟩
theorem FB (b : Bool) (w : World) {lo hi : Nat} : RV w lo hi (AK b) [.int .u8 1, .bool b, .int .i64 0, .string ⟨#[]⟩, .slice none 0 0, .slice none 0 0] := by
 unfold RV
 exact ⟨none, 0, none, 0, rfl, by omega, by unfold I64; omega, by decide, by decide, by decide, by decide, by decide, Or.inl rfl, Or.inl rfl⟩
theorem Gu (n : Int) (hn : I64 n) (w : World) {lo hi : Nat} : RV w lo hi (CQ n) [.int .u8 2, .bool false, .int .i64 n, .string ⟨#[]⟩, .slice none 0 0, .slice none 0 0] := by
 unfold RV
 exact ⟨none, 0, none, 0, rfl, by omega, hn, by decide, by decide, by decide, by decide, by decide, Or.inl rfl, Or.inl rfl⟩
theorem RB (s : ByteArray) (hs : s.size ≤ LIM) (w : World) {lo hi : Nat} : RV w lo hi (Kk s) [.int .u8 3, .bool false, .int .i64 0, .string s, .slice none 0 0, .slice none 0 0] := by
 unfold RV
 exact ⟨none, 0, none, 0, rfl, by omega, by unfold I64; omega, hs, by decide, by decide, by decide, by decide, Or.inl rfl, Or.inl rfl⟩
theorem Bx {w w' : World} {e : Int} (hb : Below w.heap.size w w') : EvPost w (Am, e) (.returned (.tuple #[Bs, .int .i64 e])) w' := ⟨hb, _, _, _, _, _, _, rfl, Mu w'⟩
theorem CF {w w' : World} {b : Bool} (hb : Below w.heap.size w w') : EvPost w (AK b, 0) (.returned (.tuple #[.agg #[.int .u8 1, .bool b, .int .i64 0, .string ⟨#[]⟩, .slice none 0 0, .slice none 0 0], .int .i64 0])) w' := ⟨hb, _, _, _, _, _, _, rfl, FB b w'⟩
theorem Sn {w w' : World} {n : Int} (hn : I64 n) (hb : Below w.heap.size w w') : EvPost w (CQ n, 0) (.returned (.tuple #[.agg #[.int .u8 2, .bool false, .int .i64 n, .string ⟨#[]⟩, .slice none 0 0, .slice none 0 0], .int .i64 0])) w' := ⟨hb, _, _, _, _, _, _, rfl, Gu n hn w'⟩
theorem RV.num {w : World} {lo hi : Nat} {t : VT} {v0 v1 v2 v3 v4 v5 : Value} (h : RV w lo hi t [v0, v1, v2, v3, v4, v5]) : v0 = .int .u8 t.kind ∧ v1 = .bool t.bool ∧ v2 = .int .i64 t.num ∧ I64 t.num ∧ 0 ≤ t.kind ∧ t.kind ≤ 255 := by
 cases t with
 | mk k b n s l f =>
   unfold RV at h
   obtain ⟨a1, c1, a2, c2, e, hk, hn, _⟩ := h
   simp only [List.cons.injEq, and_true] at e
   obtain ⟨rfl, rfl, rfl, rfl, rfl, rfl⟩ := e
   exact ⟨rfl, rfl, rfl, hn, hk.1, hk.2⟩
theorem Ls {w : World} {x y : VT} {a : Option Addr} (h : ValRow w (Au [x, y]) a) : ∃ b o, a = some ⟨b, o, none⟩ ∧ b < w.heap.size ∧ (∃ v0 v1 v2 v3 v4 v5, w.cell? ⟨b, o, none⟩ = some v0 ∧ w.cell? ⟨b, o + 1, none⟩ = some v1 ∧ w.cell? ⟨b, o + 2, none⟩ = some v2 ∧ w.cell? ⟨b, o + 3, none⟩ = some v3 ∧ w.cell? ⟨b, o + 4, none⟩ = some v4 ∧ w.cell? ⟨b, o + 5, none⟩ = some v5 ∧ RV w 0 w.heap.size x [v0, v1, v2, v3, v4, v5]) ∧
   (∃ v0 v1 v2 v3 v4 v5, w.cell? ⟨b, o + 6, none⟩ = some v0 ∧ w.cell? ⟨b, o + 6 + 1, none⟩ = some v1 ∧ w.cell? ⟨b, o + 6 + 2, none⟩ = some v2 ∧ w.cell? ⟨b, o + 6 + 3, none⟩ = some v3 ∧ w.cell? ⟨b, o + 6 + 4, none⟩ = some v4 ∧ w.cell? ⟨b, o + 6 + 5, none⟩ = some v5 ∧ RV w 0 w.heap.size y [v0, v1, v2, v3, v4, v5]) := by
 rcases h with h | ⟨b, o, e, hlt, hr⟩
 · cases h
 · unfold Au Au RL RL at hr
   exact ⟨b, o, e, hlt, hr.1, hr.2.1⟩
set_option maxHeartbeats 1000000 in
set_option maxRecDepth 100000 in
theorem K6 (k : Int) (x y : VT) (a : Option Addr) (c : Nat) (w : World) (hr : ValRow w (Au [x, y]) a) (ht : ((Au [x, y]).any fun v => !(v.kind == 2)) = true) :
  Calls Tryz.prog 222 #[.int .u8 k, .slice a 2 c] w (EvPost w (Am, 5)) := by
 have hb0 := Ad (w := w) Ah
 have H0 := Dj _ _ GV (Au [x, y]) a c _ (show 2 ≤ LIM by decide) (hr.keep hb0)
 rw [ht] at H0
 have H := Lib.hid H0
 have HZ := Lib.hid (Ab w Ah)
 have HB0 := Lib.hid hb0
 clear H0 hr ht hb0
 go_enter Tryz.func222, Tryz.ntmps222
 go_wp2_with (go_at_call 220; refine (H.out).mono ?_; rintro e w7 ⟨rfl, hb⟩; have hz := blk hb HZ.out; obtain ⟨z0, z1, z2, z3, z4, z5, z6⟩ := Ae hz; have HB7 := Lib.hid (Aa HB0.out HB0.out.size hb); clear hb hz)
 refine bodyPost_ret (v := .tuple #[Bs, .int .i64 5]) (by simp [results, Tryz.results222, go_sem, Ai, z0, z1, z2, z3, z4, z5]) rfl ?_
 exact Bx (Ag (Nat.le_refl _) [_, _, _, _, _, _] 0 _ HB7.out)
set_option maxHeartbeats 1000000 in
set_option maxRecDepth 100000 in
theorem L2 (k : Int) (x y : VT) (a : Option Addr) (c : Nat) (w : World) (hk : k = 12 ∨ k = 13 ∨ k = 14) (hr : ValRow w (Au [x, y]) a) (hc : 2 ≤ c) (ht : ((Au [x, y]).any fun v => !(v.kind == 2)) = false) :
   Calls Tryz.prog 222 #[.int .u8 k, .slice a 2 c] w (EvPost w (match MS k x.num y.num with | some n => (CQ n, 0) | none => (Am, 15))) := by
 have hb0 := Ad (w := w) Ah
 have H0 := Dj _ _ GV (Au [x, y]) a c _ (show 2 ≤ LIM by decide) (hr.keep hb0)
 rw [ht] at H0
 have H := Lib.hid H0
 have HZ := Lib.hid (Ab w Ah)
 have HB0 := Lib.hid hb0
 obtain ⟨b, o, rfl, hlt, ⟨v0, v1, v2, v3, v4, v5, d0, d1, d2, d3, d4, d5, hx⟩, ⟨u0, u1, u2, u3, u4, u5, e0, e1, e2, e3, e4, e5, hy⟩⟩ := Ls hr
 obtain ⟨_, _, rfl, hn1, _⟩ := hx.num
 obtain ⟨_, _, rfl, hn2, _⟩ := hy.num
 have HN := Lib.hid (fun w' => PK k x.num y.num w' hk hn1 hn2)
 have HI := Lib.hid (PJ k x.num y.num)
 rw [Rt]
 generalize x.num = m1 at *
 generalize y.num = m2 at *
 generalize Hy k m1 m2 = m at *
 generalize Iw k m1 m2 = ok at *
 clear H0 hr ht hb0 hx hy hn1 hn2 d0 d1 d3 d4 d5 e0 e1 e3 e4 e5 hk
 go_enter Tryz.func222, Tryz.ntmps222
 cases ok with
 | false =>
   go_wp2_with (go_at_call 220; refine (H.out).mono ?_; rintro e w7 ⟨rfl, hb⟩; have hz := blk hb HZ.out; have D2 := Ac hb (Ac HB0.out d2); have E2 := Ac hb (Ac HB0.out e2); have HZ7 := Lib.hid hz; have HB7 := Lib.hid (Aa HB0.out HB0.out.size hb); clear hb hz)
   go_quiet ((go_at_call 226; exact Calls.quiet_of_same (HN.out _)))
   have hz : (w7.drewN nq).heap[w.heap.size]? = some Ah := HZ7.out
   have HB8 := Lib.hid (Aa HB7.out HB7.out.size (Al w7 nq))
   generalize w7.drewN nq = w8 at *
   obtain ⟨z0, z1, z2, z3, z4, z5, z6⟩ := Ae hz
   clear hz D2 E2 HZ7 HB7 d2 e2
   go_wp2_with fail
   refine bodyPost_ret (v := .tuple #[Bs, .int .i64 15]) (by simp [results, Tryz.results222, go_sem, Ai, z0, z1, z2, z3, z4, z5]) rfl ?_
   exact Bx (Ag (Nat.le_refl _) [_, _, _, _, _, _] 0 _ HB8.out)
 | true =>
   go_wp2_with (go_at_call 220; refine (H.out).mono ?_; rintro e w7 ⟨rfl, hb⟩; have hz := blk hb HZ.out; have D2 := Ac hb (Ac HB0.out d2); have E2 := Ac hb (Ac HB0.out e2); have HZ7 := Lib.hid hz; have HB7 := Lib.hid (Aa HB0.out HB0.out.size hb); clear hb hz)
   go_quiet ((go_at_call 226; exact Calls.quiet_of_same (HN.out _)))
   have hz : (w7.drewN nq).heap[w.heap.size]? = some Ah := HZ7.out
   have HB8 := Lib.hid (Aa HB7.out HB7.out.size (Al w7 nq))
   generalize w7.drewN nq = w8 at *
   obtain ⟨z0, z1, z2, z3, z4, z5, z6⟩ := Ae hz
   clear hz D2 E2 HZ7 HB7 d2 e2
   go_wp2_with fail
   refine bodyPost_ret (v := .tuple #[.agg #[.int .u8 2, .bool false, .int .i64 m, .string ⟨#[]⟩, .slice none 0 0, .slice none 0 0], .int .i64 0]) (by simp [results, Tryz.results222, go_sem, Ai, z0, z1, z2, z3, z4, z5]) rfl ?_
   exact Sn HI.out (Ag (Nat.le_refl _) [_, _, _, _, _, _] 0 _ HB8.out)
theorem FQ (k : Int) (x y : VT) (a : Option Addr) (c : Nat) (w : World) (hk : k = 12 ∨ k = 13 ∨ k = 14) (hr : ValRow w (Au [x, y]) a) (hc : 2 ≤ c) :
   Calls Tryz.prog 222 #[.int .u8 k, .slice a 2 c] w (EvPost w (BF k x y)) := by
 have e : ((Au [x, y]).any fun v => !(v.kind == 2)) = (!(x.kind == 2) || (!(y.kind == 2) || false)) := rfl
 unfold BF
 by_cases h : x.kind = 2 ∧ y.kind = 2
 · rw [if_pos h]
   exact L2 k x y a c w hk hr hc (by rw [e]; simp [h.1, h.2])
 · rw [if_neg h]
   refine K6 k x y a c w hr ?_
   rw [e]
   by_cases h1 : x.kind = 2
   · have h2 : ¬ y.kind = 2 := fun h2 => h ⟨h1, h2⟩
     simp [h1, h2]
   · simp [h1]
end Go.Proofs.YtbemgcjckchdjaaGreatDoor
