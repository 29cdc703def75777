import Derived.Test.YtbemgcjckchdjaaGreatDoorKRa
import Derived.Test.YtbemgcjckchdjaaGreatDoorKQa
import Derived.Test.YtbemgcjckchdjaaGreatDoorKVn
/- What expressions come to, in plain Lean: a stack of results. No program in sight. -/
namespace Go.Proofs.YtbemgcjckchdjaaGreatDoor
open Go.RowKit
set_option linter.unusedSimpArgs false
set_option linter.unusedVariables false
abbrev Rz := VT × Int
abbrev Ez : ByteArray := ⟨#[]⟩
abbrev nullV : VT := .mk 0 false 0 Ez .nil .nil
abbrev truthV (b : Bool) : VT := .mk 1 b 0 Ez .nil .nil
abbrev intV (n : Int) : VT := .mk 2 false n Ez .nil .nil
abbrev textV (s : ByteArray) : VT := .mk 3 false 0 s .nil .nil
abbrev listV (l : VL) : VT := .mk 5 false 0 Ez l .nil
abbrev structV (f : FL) : VT := .mk 6 false 0 Ez .nil f
def VT.kind : VT → Int | .mk k _ _ _ _ _ => k
def VT.bool : VT → Bool | .mk _ b _ _ _ _ => b
def VT.num : VT → Int | .mk _ _ n _ _ _ => n
def toVL : List VT → VL
  | [] => .nil
  | v :: r => .cons v (toVL r)
/-- a field's value in its place; a new field where the names rise -/
def repF (name : ByteArray) (x : VT) : FL → FL
  | .nil => .nil
  | .cons s t r => if s.toList == name.toList then .cons s x r else .cons s t (repF name x r)
def insF (name : ByteArray) (x : VT) : FL → FL
  | .nil => .cons name x .nil
  | .cons s t r => if Op.bytesLess name.toList s.toList then .cons name x (.cons s t r) else .cons s t (insF name x r)
def putF (f : FL) (name : ByteArray) (x : VT) : FL := if 0 ≤ idxF name f 0 then repF name x f else insF name x f
def putsF : FL → List ByteArray → List VT → FL
  | f, n :: ns, v :: vs => putsF (putF f n v) ns vs
  | f, _, _ => f
def allR : List Rz → Except Int (List VT)
  | [] => .ok []
  | r :: l => if r.2 ≠ 0 then .error r.2 else match allR l with | .error e => .error e | .ok vs => .ok (r.1 :: vs)
def checkedR (v : VT) : Rz := if checkV v 0 = 0 then (v, 0) else (nullV, checkV v 0)
def makeR (names : Option (List ByteArray)) (l : List Rz) : Rz := match allR l with
  | .error e => (nullV, e)
  | .ok vs => checkedR (match names with | none => listV (toVL vs) | some ns => structV (putsF .nil ns vs))
def flagR (r : Rz) : Rz := if r.2 ≠ 0 then (nullV, r.2) else if 1 < r.1.kind then (nullV, 5) else r
def logicR (o : Bool) (a b : Rz) : Rz :=
  if (flagR a).2 ≠ 0 || (flagR a).1.bool == o then flagR a
  else if (flagR b).2 = 0 && o && !(flagR b).1.bool && (flagR a).1.kind = 0 then ((flagR a).1, 0) else flagR b
def mulFits (x : Int) : Bool := fitsB x
/-- a sum, a difference, a product, where it fits -/
def numZ (k a b : Int) : Option Int :=
  if k = 12 then (if fitsB (a + b) then some (a + b) else none)
  else if k = 13 then (if fitsB (a - b) then some (a - b) else none)
  else (if fitsB (a * b) then some (a * b) else none)
def countedR (k : Int) (a b : VT) : Rz := if a.kind = 2 ∧ b.kind = 2 then (match numZ k a.num b.num with | some n => (intV n, 0) | none => (nullV, 15)) else (nullV, 5)
def heldR (k : Int) (a b : VT) : Rz :=
  if k = 15 then (truthV (decide (cmpV a b = 0)), 0)
  else if k = 16 then (truthV (decide (cmpV a b ≠ 0)), 0)
  else if a.kind ≠ b.kind ∨ 5 ≤ a.kind then (nullV, 5)
  else if k = 17 then (truthV (decide (cmpV a b < 0)), 0)
  else if k = 18 then (truthV (decide (cmpV a b < 1)), 0)
  else if k = 19 then (truthV (decide (0 < cmpV a b)), 0)
  else (truthV (decide (-1 < cmpV a b)), 0)
def operR (k : Int) (l : List Rz) : Rz := match allR l with
  | .error e => (nullV, e)
  | .ok vs =>
    if k = 11 then (truthV (vs.any fun v => v.kind == 0), 0)
    else if vs.any fun v => v.kind == 0 then (nullV, 0)
    else if k = 9 then countedR 13 (intV 0) (vs.getD 0 nullV)
    else if k = 10 then (if (vs.getD 0 nullV).kind = 1 then (truthV (!(vs.getD 0 nullV).bool), 0) else (nullV, 5))
    else if k ≤ 14 then countedR k (vs.getD 0 nullV) (vs.getD 1 nullV)
    else heldR k (vs.getD 0 nullV) (vs.getD 1 nullV)
def comma : ByteArray := ⟨#[44]⟩
def dot : ByteArray := ⟨#[46]⟩
def leafR (s : ST) (row : VT) : Rz :=
  if s.k = 2 ∨ s.k = 3 then (truthV (s.k == 2), 0)
  else if s.k = 4 then (intV s.n, 0)
  else if s.k = 5 then (textV s.t, 0)
  else if s.k = 6 then ((getV row (splitS s.t dot)).getD nullV, 0)
  else (nullV, 0)
def oneR (s : ST) (row : VT) (l : List Rz) : Rz :=
  if s.k = 7 then makeR none l
  else if s.k = 8 then makeR (some (splitS s.t comma)) l
  else if s.k = 21 ∨ s.k = 22 then logicR (s.k == 22) (l.getD 0 (nullV, 0)) (l.getD 1 (nullV, 0))
  else if l.isEmpty then leafR s row
  else operR s.k l
/-- a step on the stack, whose top is at the end -/
def stepE (row : VT) (stk : List Rz) (s : ST) : List Rz := stk.take (stk.length - s.takes.toNat) ++ [oneR s row (stk.drop (stk.length - s.takes.toNat))]
def stackE (row : VT) (l : List ST) (stk : List Rz) : List Rz := l.foldl (stepE row) stk
def treeE (row : VT) (l : List ST) : Rz := (stackE row l []).getD 0 (nullV, 0)
def evalE (l : List ST) (row : VT) : Rz :=
  if rightB l then (if checkV row 0 = 0 then treeE row l else (nullV, checkV row 0)) else (nullV, 13)
def holdsE (l : List ST) (row : VT) : Bool × Int :=
  if l.length = 0 then (decide (checkV row 0 = 0), checkV row 0)
  else if (evalE l row).2 = 0 ∧ 1 < (evalE l row).1.kind then (false, 5) else ((evalE l row).1.bool, (evalE l row).2)
end Go.Proofs.YtbemgcjckchdjaaGreatDoor
/- expr.number: products. -/
namespace Go.Proofs.YtbemgcjckchdjaaGreatDoor
open Go.RowKit
set_option linter.unusedSimpArgs false
set_option linter.unusedVariables false
set_option maxHeartbeats 1000000 in
set_option maxRecDepth 100000 in
theorem mul_big (k a b A B H L : Int) (z y : Int) (w : World) (k1 : (k == 12) = false) (k2 : (k == 13) = false) (ha : ∀ w', Calls Tryz.prog 229 #[.int .i64 a] w' fun e w2 => e = .returned (.int .u64 A) ∧ w2 = w') (hb : ∀ w', Calls Tryz.prog 229 #[.int .i64 b] w' fun e w2 => e = .returned (.int .u64 B) ∧ w2 = w')
    (hm : ∀ w', Calls Tryz.prog 228 #[.int .u64 A, .int .u64 B] w' fun e w2 => e = .returned (.tuple #[.int .u64 H, .int .u64 L]) ∧ w2 = w') (h1 : decide (0 < H) = true) (x1 : IntKind.i64.wrap L = z) (x2 : IntKind.i64.wrap (-z) = y) :
    Calls Tryz.prog 226 #[.int .u8 k, .int .i64 a, .int .i64 b] w fun e w' => e = .returned (.tuple #[.int .i64 0, .bool false]) ∧ w' = w := by
  have HA := Lib.hid ha
  have HB := Lib.hid hb
  have HM := Lib.hid hm
  clear ha hb hm
  go_enter Tryz.func226, Tryz.ntmps226
  go_wp2_with (first | (go_at_call 228; refine (HM.out _).mono ?_; rintro e w2 ⟨rfl, rfl⟩) | (go_at_call 229; ((with_reducible refine (HA.out _).mono ?_); rintro e w2 ⟨rfl, rfl⟩)) | (go_at_call 229; ((with_reducible refine (HB.out _).mono ?_); rintro e w2 ⟨rfl, rfl⟩)))
  go_ret2
  exact ⟨by first | rfl | simp [x1, x2], rfl⟩
set_option maxHeartbeats 1000000 in
set_option maxRecDepth 100000 in
theorem mul_big2 (k a b A B H L : Int) (z y : Int) (w : World) (k1 : (k == 12) = false) (k2 : (k == 13) = false) (ha : ∀ w', Calls Tryz.prog 229 #[.int .i64 a] w' fun e w2 => e = .returned (.int .u64 A) ∧ w2 = w') (hb : ∀ w', Calls Tryz.prog 229 #[.int .i64 b] w' fun e w2 => e = .returned (.int .u64 B) ∧ w2 = w')
    (hm : ∀ w', Calls Tryz.prog 228 #[.int .u64 A, .int .u64 B] w' fun e w2 => e = .returned (.tuple #[.int .u64 H, .int .u64 L]) ∧ w2 = w') (h1 : decide (0 < H) = false) (h2 : decide (9223372036854775808 < L) = true) (x1 : IntKind.i64.wrap L = z) (x2 : IntKind.i64.wrap (-z) = y) :
    Calls Tryz.prog 226 #[.int .u8 k, .int .i64 a, .int .i64 b] w fun e w' => e = .returned (.tuple #[.int .i64 0, .bool false]) ∧ w' = w := by
  have HA := Lib.hid ha
  have HB := Lib.hid hb
  have HM := Lib.hid hm
  clear ha hb hm
  go_enter Tryz.func226, Tryz.ntmps226
  go_wp2_with (first | (go_at_call 228; refine (HM.out _).mono ?_; rintro e w2 ⟨rfl, rfl⟩) | (go_at_call 229; ((with_reducible refine (HA.out _).mono ?_); rintro e w2 ⟨rfl, rfl⟩)) | (go_at_call 229; ((with_reducible refine (HB.out _).mono ?_); rintro e w2 ⟨rfl, rfl⟩)))
  go_ret2
  exact ⟨by first | rfl | simp [x1, x2], rfl⟩
set_option maxHeartbeats 1000000 in
set_option maxRecDepth 100000 in
theorem mul_edge (k a b A B H L : Int) (z y : Int) (w : World) (k1 : (k == 12) = false) (k2 : (k == 13) = false) (ha : ∀ w', Calls Tryz.prog 229 #[.int .i64 a] w' fun e w2 => e = .returned (.int .u64 A) ∧ w2 = w') (hb : ∀ w', Calls Tryz.prog 229 #[.int .i64 b] w' fun e w2 => e = .returned (.int .u64 B) ∧ w2 = w')
    (hm : ∀ w', Calls Tryz.prog 228 #[.int .u64 A, .int .u64 B] w' fun e w2 => e = .returned (.tuple #[.int .u64 H, .int .u64 L]) ∧ w2 = w') (h1 : decide (0 < H) = false) (h2 : decide (9223372036854775808 < L) = false) (h3 : (L == 9223372036854775808) = true) (hmn : (decide (a < 0) == decide (b < 0)) = true) (x1 : IntKind.i64.wrap L = z) (x2 : IntKind.i64.wrap (-z) = y) :
    Calls Tryz.prog 226 #[.int .u8 k, .int .i64 a, .int .i64 b] w fun e w' => e = .returned (.tuple #[.int .i64 0, .bool false]) ∧ w' = w := by
  have HA := Lib.hid ha
  have HB := Lib.hid hb
  have HM := Lib.hid hm
  clear ha hb hm
  go_enter Tryz.func226, Tryz.ntmps226
  go_wp2_with (first | (go_at_call 228; refine (HM.out _).mono ?_; rintro e w2 ⟨rfl, rfl⟩) | (go_at_call 229; ((with_reducible refine (HA.out _).mono ?_); rintro e w2 ⟨rfl, rfl⟩)) | (go_at_call 229; ((with_reducible refine (HB.out _).mono ?_); rintro e w2 ⟨rfl, rfl⟩)))
  go_ret2
  exact ⟨by first | rfl | simp [x1, x2], rfl⟩
set_option maxHeartbeats 1000000 in
set_option maxRecDepth 100000 in
theorem mul_least (k a b A B H L : Int) (z y : Int) (w : World) (k1 : (k == 12) = false) (k2 : (k == 13) = false) (ha : ∀ w', Calls Tryz.prog 229 #[.int .i64 a] w' fun e w2 => e = .returned (.int .u64 A) ∧ w2 = w') (hb : ∀ w', Calls Tryz.prog 229 #[.int .i64 b] w' fun e w2 => e = .returned (.int .u64 B) ∧ w2 = w')
    (hm : ∀ w', Calls Tryz.prog 228 #[.int .u64 A, .int .u64 B] w' fun e w2 => e = .returned (.tuple #[.int .u64 H, .int .u64 L]) ∧ w2 = w') (h1 : decide (0 < H) = false) (h2 : decide (9223372036854775808 < L) = false) (h3 : (L == 9223372036854775808) = true) (hmn : (decide (a < 0) == decide (b < 0)) = false) (x1 : IntKind.i64.wrap L = z) (x2 : IntKind.i64.wrap (-z) = y) :
    Calls Tryz.prog 226 #[.int .u8 k, .int .i64 a, .int .i64 b] w fun e w' => e = .returned (.tuple #[.int .i64 y, .bool true]) ∧ w' = w := by
  have HA := Lib.hid ha
  have HB := Lib.hid hb
  have HM := Lib.hid hm
  clear ha hb hm
  go_enter Tryz.func226, Tryz.ntmps226
  go_wp2_with (first | (go_at_call 228; refine (HM.out _).mono ?_; rintro e w2 ⟨rfl, rfl⟩) | (go_at_call 229; ((with_reducible refine (HA.out _).mono ?_); rintro e w2 ⟨rfl, rfl⟩)) | (go_at_call 229; ((with_reducible refine (HB.out _).mono ?_); rintro e w2 ⟨rfl, rfl⟩)))
  go_ret2
  exact ⟨by first | rfl | simp [x1, x2], rfl⟩
set_option maxHeartbeats 1000000 in
set_option maxRecDepth 100000 in
theorem mul_minus (k a b A B H L : Int) (z y : Int) (w : World) (k1 : (k == 12) = false) (k2 : (k == 13) = false) (ha : ∀ w', Calls Tryz.prog 229 #[.int .i64 a] w' fun e w2 => e = .returned (.int .u64 A) ∧ w2 = w') (hb : ∀ w', Calls Tryz.prog 229 #[.int .i64 b] w' fun e w2 => e = .returned (.int .u64 B) ∧ w2 = w')
    (hm : ∀ w', Calls Tryz.prog 228 #[.int .u64 A, .int .u64 B] w' fun e w2 => e = .returned (.tuple #[.int .u64 H, .int .u64 L]) ∧ w2 = w') (h1 : decide (0 < H) = false) (h2 : decide (9223372036854775808 < L) = false) (h3 : (L == 9223372036854775808) = false) (hmn : (decide (a < 0) == decide (b < 0)) = false) (x1 : IntKind.i64.wrap L = z) (x2 : IntKind.i64.wrap (-z) = y) :
    Calls Tryz.prog 226 #[.int .u8 k, .int .i64 a, .int .i64 b] w fun e w' => e = .returned (.tuple #[.int .i64 y, .bool true]) ∧ w' = w := by
  have HA := Lib.hid ha
  have HB := Lib.hid hb
  have HM := Lib.hid hm
  clear ha hb hm
  go_enter Tryz.func226, Tryz.ntmps226
  go_wp2_with (first | (go_at_call 228; refine (HM.out _).mono ?_; rintro e w2 ⟨rfl, rfl⟩) | (go_at_call 229; ((with_reducible refine (HA.out _).mono ?_); rintro e w2 ⟨rfl, rfl⟩)) | (go_at_call 229; ((with_reducible refine (HB.out _).mono ?_); rintro e w2 ⟨rfl, rfl⟩)))
  go_ret2
  exact ⟨by first | rfl | simp [x1, x2], rfl⟩
set_option maxHeartbeats 1000000 in
set_option maxRecDepth 100000 in
theorem mul_plus (k a b A B H L : Int) (z y : Int) (w : World) (k1 : (k == 12) = false) (k2 : (k == 13) = false) (ha : ∀ w', Calls Tryz.prog 229 #[.int .i64 a] w' fun e w2 => e = .returned (.int .u64 A) ∧ w2 = w') (hb : ∀ w', Calls Tryz.prog 229 #[.int .i64 b] w' fun e w2 => e = .returned (.int .u64 B) ∧ w2 = w')
    (hm : ∀ w', Calls Tryz.prog 228 #[.int .u64 A, .int .u64 B] w' fun e w2 => e = .returned (.tuple #[.int .u64 H, .int .u64 L]) ∧ w2 = w') (h1 : decide (0 < H) = false) (h2 : decide (9223372036854775808 < L) = false) (h3 : (L == 9223372036854775808) = false) (hmn : (decide (a < 0) == decide (b < 0)) = true) (x1 : IntKind.i64.wrap L = z) (x2 : IntKind.i64.wrap (-z) = y) :
    Calls Tryz.prog 226 #[.int .u8 k, .int .i64 a, .int .i64 b] w fun e w' => e = .returned (.tuple #[.int .i64 z, .bool true]) ∧ w' = w := by
  have HA := Lib.hid ha
  have HB := Lib.hid hb
  have HM := Lib.hid hm
  clear ha hb hm
  go_enter Tryz.func226, Tryz.ntmps226
  go_wp2_with (first | (go_at_call 228; refine (HM.out _).mono ?_; rintro e w2 ⟨rfl, rfl⟩) | (go_at_call 229; ((with_reducible refine (HA.out _).mono ?_); rintro e w2 ⟨rfl, rfl⟩)) | (go_at_call 229; ((with_reducible refine (HB.out _).mono ?_); rintro e w2 ⟨rfl, rfl⟩)))
  go_ret2
  exact ⟨by first | rfl | simp [x1, x2], rfl⟩
end Go.Proofs.YtbemgcjckchdjaaGreatDoor
/- expr.number: a sum, a difference, a product. -/
namespace Go.Proofs.YtbemgcjckchdjaaGreatDoor
open Go.RowKit
set_option linter.unusedSimpArgs false
set_option linter.unusedVariables false
theorem sign_same {a b : Int} (h : (decide (a < 0) == decide (b < 0)) = true) : 0 ≤ a * b := by
  simp only [beq_iff_eq, decide_eq_decide] at h
  by_cases ha : a < 0
  · exact Int.mul_nonneg_of_nonpos_of_nonpos (by omega) (by omega)
  · exact Int.mul_nonneg (by omega) (by omega)
theorem sign_other {a b : Int} (h : (decide (a < 0) == decide (b < 0)) = false) : a * b ≤ 0 := by
  rw [beq_eq_false_iff_ne, ne_eq, decide_eq_decide] at h
  by_cases ha : a < 0
  · exact Int.mul_nonpos_of_nonpos_of_nonneg (by omega) (by omega)
  · exact Int.mul_nonpos_of_nonneg_of_nonpos (by omega) (by omega)
/-- what number hands back, and whether it fits -/
def numOk (k a b : Int) : Bool := if k = 12 then fitsB (a + b) else if k = 13 then fitsB (a - b) else fitsB (a * b)
def numW (k a b : Int) : Int := if k = 12 then IntKind.i64.wrap (a + b) else if k = 13 then IntKind.i64.wrap (a - b) else if fitsB (a * b) then a * b else 0
theorem wrap_fits {x : Int} (h : fitsB x = true) : IntKind.i64.wrap x = x := by
  unfold fitsB at h
  have := of_decide_eq_true h
  exact IntWalk.i64_in _ (by omega)
theorem numZ_eq (k a b : Int) : numZ k a b = if numOk k a b then some (numW k a b) else none := by
  unfold numZ numOk numW
  by_cases h1 : k = 12
  · simp only [if_pos h1]
    cases hf : fitsB (a + b) with
    | true => simp [wrap_fits hf]
    | false => simp
  · simp only [if_neg h1]
    by_cases h2 : k = 13
    · simp only [if_pos h2]
      cases hf : fitsB (a - b) with
      | true => simp [wrap_fits hf]
      | false => simp
    · simp only [if_neg h2]
      cases hf : fitsB (a * b) with
      | true => simp
      | false => simp
theorem fits_i64 {x : Int} (h : fitsB x = true) : I64 x := by
  unfold fitsB at h
  unfold I64
  simpa using h
theorem numW_i64 (k a b : Int) : I64 (numW k a b) := by
  unfold numW
  split
  · exact i64_wrap _
  · split
    · exact i64_wrap _
    · split
      · rename_i h; exact fits_i64 h
      · unfold I64; omega
theorem numz_any (k a b : Int) (w : World) (hk : k = 12 ∨ k = 13 ∨ k = 14) (ha : I64 a) (hb : I64 b) : Calls Tryz.prog 226 #[.int .u8 k, .int .i64 a, .int .i64 b] w fun e w' => e = .returned (.tuple #[.int .i64 (numW k a b), .bool (numOk k a b)]) ∧ w' = w := by
  rcases hk with rfl | rfl | rfl
  · exact number_add a b w ha hb
  · exact number_sub a b w ha hb
  · have e1 : numW 14 a b = if fitsB (a * b) then a * b else 0 := rfl
    have e2 : numOk 14 a b = fitsB (a * b) := rfl
    rw [e1, e2]
    have hA := fun w' => size_calls a w' ha
    have hB := fun w' => size_calls b w' hb
    have hM := fun w' => Tryz.bits_Mul64 a.natAbs b.natAbs (by unfold I64 at ha; omega) (by unfold I64 at hb; omega) w'
    have hP : (a * b).natAbs = a.natAbs * b.natAbs := Int.natAbs_mul a b
    rw [← hP] at hM
    obtain ⟨c, hc⟩ : ∃ c, a * b = c := ⟨_, rfl⟩
    rw [hc] at hM ⊢
    clear hP e1 e2
    have k1 : ((14 : Int) == 12) = false := rfl
    have k2 : ((14 : Int) == 13) = false := rfl
    have sg := @sign_same a b
    have so := @sign_other a b
    rw [hc] at sg so
    obtain ⟨P, hPc⟩ : ∃ P, c.natAbs = P := ⟨_, rfl⟩
    rw [hPc] at hM
    have hmd : (P / 18446744073709551616) * 18446744073709551616 + P % 18446744073709551616 = P := by omega
    obtain ⟨hi, hhi⟩ : ∃ h, P / 18446744073709551616 = h := ⟨_, rfl⟩
    obtain ⟨lo, hlo⟩ : ∃ h, P % 18446744073709551616 = h := ⟨_, rfl⟩
    have hlt : lo < 18446744073709551616 := by rw [← hlo]; omega
    have hM' : ∀ w', Calls Tryz.prog 228 #[.int .u64 (a.natAbs : Int), .int .u64 (b.natAbs : Int)] w' fun e w2 => e = .returned (.tuple #[.int .u64 (hi : Int), .int .u64 (lo : Int)]) ∧ w2 = w' := fun w' => (hM w').mono fun e w2 h => by
      rw [← hhi, ← hlo]; exact h
    rw [hhi, hlo] at hmd
    clear hM hhi hlo
    by_cases g1 : (0 : Int) < hi
    · have hf : fitsB c = false := by unfold fitsB; simp; omega
      refine (mul_big 14 a b a.natAbs b.natAbs hi lo _ _ w k1 k2 hA hB hM' (by simpa using g1) rfl rfl).mono ?_
      rintro e w' ⟨rfl, rfl⟩
      exact ⟨by rw [hf]; rfl, rfl⟩
    have g1' : decide ((0 : Int) < hi) = false := by simpa using g1
    by_cases g2 : (9223372036854775808 : Int) < lo
    · have hf : fitsB c = false := by unfold fitsB; simp; omega
      refine (mul_big2 14 a b a.natAbs b.natAbs hi lo _ _ w k1 k2 hA hB hM' g1' (by simpa using g2) rfl rfl).mono ?_
      rintro e w' ⟨rfl, rfl⟩
      exact ⟨by rw [hf]; rfl, rfl⟩
    have g2' : decide ((9223372036854775808 : Int) < lo) = false := by simpa using g2
    cases hs : (decide (a < 0) == decide (b < 0)) with
    | true =>
      have hpos := sg hs
      by_cases g3 : (lo : Int) = 9223372036854775808
      · have hf : fitsB c = false := by unfold fitsB; simp; omega
        refine (mul_edge 14 a b a.natAbs b.natAbs hi lo _ _ w k1 k2 hA hB hM' g1' g2' (by simpa using g3) hs rfl rfl).mono ?_
        rintro e w' ⟨rfl, rfl⟩
        exact ⟨by rw [hf]; rfl, rfl⟩
      · have hf : fitsB c = true := by unfold fitsB; simp; omega
        have hz : IntKind.i64.wrap (lo : Int) = c := by rw [IntWalk.i64_in _ (by omega)]; omega
        refine (mul_plus 14 a b a.natAbs b.natAbs hi lo c _ w k1 k2 hA hB hM' g1' g2' (by simpa using g3) hs hz rfl).mono ?_
        rintro e w' ⟨rfl, rfl⟩
        exact ⟨by rw [hf]; rfl, rfl⟩
    | false =>
      have hneg := so hs
      have hf : fitsB c = true := by unfold fitsB; simp; omega
      by_cases g3 : (lo : Int) = 9223372036854775808
      · have hz : IntKind.i64.wrap (lo : Int) = -9223372036854775808 := by rw [g3]; rfl
        have hy : IntKind.i64.wrap (- -9223372036854775808) = c := by
          have : c = -9223372036854775808 := by omega
          rw [this]; rfl
        refine (mul_least 14 a b a.natAbs b.natAbs hi lo _ c w k1 k2 hA hB hM' g1' g2' (by simpa using g3) hs hz hy).mono ?_
        rintro e w' ⟨rfl, rfl⟩
        exact ⟨by rw [hf]; rfl, rfl⟩
      · have hz : IntKind.i64.wrap (lo : Int) = lo := IntWalk.i64_in _ (by omega)
        have hy : IntKind.i64.wrap (-(lo : Int)) = c := by rw [IntWalk.i64_in _ (by omega)]; omega
        refine (mul_minus 14 a b a.natAbs b.natAbs hi lo _ c w k1 k2 hA hB hM' g1' g2' (by simpa using g3) hs hz hy).mono ?_
        rintro e w' ⟨rfl, rfl⟩
        exact ⟨by rw [hf]; rfl, rfl⟩
end Go.Proofs.YtbemgcjckchdjaaGreatDoor
