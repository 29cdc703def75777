import Derived.Test.YtbemgcjckchdjaaGreatDoorLPi
import Derived.Lib.SlicesS
/- expr.truth, expr.size. -/
namespace Go.Proofs.YtbemgcjckchdjaaGreatDoor
open Go.RowKit
set_option linter.unusedSimpArgs false
set_option linter.unusedVariables false
theorem B6 (b : Bool) (w : World) : Calls Tryz.prog 96 #[.bool b] w fun e w' => e = .returned (.agg #[.int .u8 1, .bool b, .int .i64 0, .string ⟨#[]⟩, .slice none 0 0, .slice none 0 0]) ∧ Below w.heap.size w w' := by
 have hT := Ab w (.cells #[.int .u8 0, .bool false, .int .i64 0, .string ⟨#[]⟩, .slice none 0 0, .slice none 0 0] 27)
 have hD : Below w.heap.size w (w.alloc (.cells #[.int .u8 0, .bool false, .int .i64 0, .string ⟨#[]⟩, .slice none 0 0, .slice none 0 0] 27)) := (Below.refl _ _).alloc (Nat.le_refl _) _
 go_enter Tryz.func96, Tryz.ntmps96
 go_upto_region 1 with (fail)
 generalize w.alloc (.cells #[.int .u8 0, .bool false, .int .i64 0, .string ⟨#[]⟩, .slice none 0 0, .slice none 0 0] 27) = W at *
 obtain ⟨z0, z1, z2, z3, z4, z5, z6⟩ := Ae hT
 go_wp2_with fail
 refine bodyPost_ret (v := .agg #[.int .u8 1, .bool b, .int .i64 0, .string ⟨#[]⟩, .slice none 0 0, .slice none 0 0]) (by simp [results, Tryz.results96, go_sem, Ai, z0, z1, z2, z3, z4, z5]) rfl ?_
 exact ⟨rfl, Ag (Nat.le_refl _) [_, _, _, _, _, _] 0 _ hD⟩
theorem I3 (n : Int) (w : World) (hn : I64 n) : Calls Tryz.prog 229 #[.int .i64 n] w fun e w' => e = .returned (.int .u64 (n.natAbs : Int)) ∧ w' = w := by
 unfold I64 at hn
 by_cases h : n < 0
 · have e1 : (n.natAbs : Int) = -n := by omega
   have e2 : IntKind.u64.wrap n = n + 18446744073709551616 := by simp [IntKind.wrap, IntKind.bits, IntKind.signed]; omega
   have e3 : IntKind.u64.wrap (-(n + 18446744073709551616)) = -n := by simp [IntKind.wrap, IntKind.bits, IntKind.signed]; omega
   rw [e1]
   go_enter Tryz.func229, Tryz.ntmps229
   go_wp2_with fail
   go_ret
   exact ⟨by go_num, rfl⟩
 · have e1 : (n.natAbs : Int) = n := by omega
   have e2 : IntKind.u64.wrap n = n := by simp [IntKind.wrap, IntKind.bits, IntKind.signed]; omega
   rw [e1]
   go_enter Tryz.func229, Tryz.ntmps229
   go_wp2_with fail
   go_ret
   exact ⟨by go_num, rfl⟩
/- CN of bitwise and, xor (plain). -/
theorem FM (r : BitVec 64) : IntKind.i64.wrap r.toNat = r.toInt := by
 rw [BitVec.toInt_eq_toNat_cond]
 have := r.isLt
 simp [IntKind.wrap, IntKind.bits, IntKind.signed]
 split <;> split <;> omega
theorem Gz (r : BitVec 64) : (0 ≤ r.toInt) = (r.msb = false) := by
 have h := BitVec.toInt_neg_iff (x := r)
 cases hm : r.msb with
 | true => have := BitVec.msb_eq_toInt (x := r); rw [hm] at this; simp at this; simp; omega
 | false => have := BitVec.msb_eq_toInt (x := r); rw [hm] at this; simp at this; simp; omega
theorem EK (x : Int) (h : I64 x) : (BitVec.ofInt 64 x).msb = decide (x < 0) := by
 unfold I64 at h
 rw [BitVec.msb_eq_toInt, BitVec.toInt_ofInt]
 congr 1
 rw [Int.bmod_def]
 simp
 omega
theorem FN (x y : Int) (hx : I64 x) (hy : I64 y) : decide (0 ≤ bits .xor .i64 x y) = (decide (x < 0) == decide (y < 0)) := by
 have e : bits .xor .i64 x y = IntKind.i64.wrap (BitVec.ofInt 64 x ^^^ BitVec.ofInt 64 y).toNat := rfl
 rw [e, FM]
 simp only [Gz, BitVec.msb_xor, EK x hx, EK y hy]
 cases decide (x < 0) <;> cases decide (y < 0) <;> rfl
theorem Kt (x y : Int) (hx : I64 x) (hy : I64 y) : decide (0 ≤ bits .and .i64 x y) = !(decide (x < 0) && decide (y < 0)) := by
 have e : bits .and .i64 x y = IntKind.i64.wrap (BitVec.ofInt 64 x &&& BitVec.ofInt 64 y).toNat := rfl
 rw [e, FM]
 simp only [Gz, BitVec.msb_and, EK x hx, EK y hy]
 cases decide (x < 0) <;> cases decide (y < 0) <;> rfl
theorem Fo (op : BinOp) (x y : Int) (r : BitVec 64) (h : bits op .i64 x y = IntKind.i64.wrap r.toNat) : I64 (bits op .i64 x y) := by
 rw [h, FM]
 have h1 := BitVec.toInt_lt (x := r)
 have h2 := BitVec.le_toInt (x := r)
 unfold I64
 omega
theorem Fv (x : Int) : I64 (IntKind.i64.wrap x) := by
 unfold I64
 simp [IntKind.wrap, IntKind.bits, IntKind.signed]
 split <;> omega
def AZ (x : Int) : Bool := decide (-9223372036854775808 ≤ x ∧ x ≤ 9223372036854775807)
theorem Pa (a b n : Int) (ha : I64 a) (hb : I64 b) (hn : n = IntKind.i64.wrap (a + b)) : decide (0 ≤ bits .and .i64 (bits .xor .i64 a n) (bits .xor .i64 b n)) = AZ (a + b) := by
 have hi : I64 n := by rw [hn]; exact Fv _
 have h1 := FN a n ha hi
 have h2 := FN b n hb hi
 rw [Kt _ _ (Fo .xor a n _ rfl) (Fo .xor b n _ rfl)]
 generalize bits .xor .i64 a n = x at *
 generalize bits .xor .i64 b n = y at *
 have hn2 : n = a + b ∨ n = a + b + 18446744073709551616 ∧ a + b < -9223372036854775808 ∨ n = a + b - 18446744073709551616 ∧ 9223372036854775807 < a + b := by
  unfold I64 at ha hb
  rw [hn]
  simp [IntKind.wrap, IntKind.bits, IntKind.signed]
  split <;> omega
 unfold I64 at ha hb hi
 clear hn
 unfold AZ
 rw [Bool.eq_iff_iff] at h1 h2 ⊢
 simp only [beq_iff_eq, decide_eq_decide, decide_eq_true_eq, Bool.not_eq_true', Bool.and_eq_false_iff, decide_eq_false_iff_not] at h1 h2 ⊢
 omega
theorem Qr (a b n : Int) (ha : I64 a) (hb : I64 b) (hn : n = IntKind.i64.wrap (a - b)) : decide (0 ≤ bits .and .i64 (bits .xor .i64 a b) (bits .xor .i64 a n)) = AZ (a - b) := by
 have hi : I64 n := by rw [hn]; exact Fv _
 have h1 := FN a b ha hb
 have h2 := FN a n ha hi
 rw [Kt _ _ (Fo .xor a b _ rfl) (Fo .xor a n _ rfl)]
 generalize bits .xor .i64 a b = x at *
 generalize bits .xor .i64 a n = y at *
 have hn2 : n = a - b ∨ n = a - b + 18446744073709551616 ∧ a - b < -9223372036854775808 ∨ n = a - b - 18446744073709551616 ∧ 9223372036854775807 < a - b := by
  unfold I64 at ha hb
  rw [hn]
  simp [IntKind.wrap, IntKind.bits, IntKind.signed]
  split <;> omega
 unfold I64 at ha hb hi
 clear hn
 unfold AZ
 rw [Bool.eq_iff_iff] at h1 h2 ⊢
 simp only [beq_iff_eq, decide_eq_decide, decide_eq_true_eq, Bool.not_eq_true', Bool.and_eq_false_iff, decide_eq_false_iff_not] at h1 h2 ⊢
 omega
/- expr.number. -/
theorem MT (a b : Int) (w : World) (ha : I64 a) (hb : I64 b) : Calls Tryz.prog 226 #[.int .u8 12, .int .i64 a, .int .i64 b] w fun e w' => e = .returned (.tuple #[.int .i64 (IntKind.i64.wrap (a + b)), .bool (AZ (a + b))]) ∧ w' = w := by
 obtain ⟨n, hn⟩ : ∃ n, n = IntKind.i64.wrap (a + b) := ⟨_, rfl⟩
 have hf := Pa a b n ha hb hn
 have HN := Lib.hid hn
 have hn' := hn.symm
 rw [hn'] 
 generalize AZ (a + b) = z at *
 clear ha hb hn
 go_enter Tryz.func226, Tryz.ntmps226
 go_wp2_with fail
 go_ret2
 exact ⟨by simp [hn', hf], rfl⟩
theorem MV (a b : Int) (w : World) (ha : I64 a) (hb : I64 b) : Calls Tryz.prog 226 #[.int .u8 13, .int .i64 a, .int .i64 b] w fun e w' => e = .returned (.tuple #[.int .i64 (IntKind.i64.wrap (a - b)), .bool (AZ (a - b))]) ∧ w' = w := by
 obtain ⟨n, hn⟩ : ∃ n, n = IntKind.i64.wrap (a - b) := ⟨_, rfl⟩
 have hf := Qr a b n ha hb hn
 have hn' := hn.symm
 rw [hn']
 generalize AZ (a - b) = z at *
 clear ha hb hn
 go_enter Tryz.func226, Tryz.ntmps226
 go_wp2_with fail
 go_ret2
 exact ⟨by simp [hn', hf], rfl⟩
/- The parser in plain Lean, on a row of tokens and the steps so far: it gives up (none) where the laws' own texts never come. No program in sight. -/
def A6 (k : Int) (texts : List ByteArray) : List TK → Bool
 | [] => false
 | t :: _ => t.k == k && (texts.isEmpty || Lib.containsS texts t.t)
abbrev PSt := List TK × List ST
def BW (k : Int) (texts : List ByteArray) (s : PSt) : Option (TK × PSt) :=
 if A6 k texts s.1 then (match s.1 with | [] => none | t :: r => some (t, (r, s.2))) else none
def Es (x : ST) (s : PSt) : Option PSt := if s.2.length < 128 then some (s.1, s.2 ++ [x]) else none
def GC (d : Int) (s : PSt) : Option PSt := if d < 16 then (match s.1 with | [] => none | _ :: r => some (r, s.2)) else none
def E0 : ByteArray := ⟨#[]⟩
def Ki (s : PSt) : Option PSt := match BW 1 [] s with
 | none => none
 | some (t, s1) => if A6 5 [⟨#[46]⟩] s1.1 then none else Es ⟨6, t.t, 0⟩ s1
def Dy (d : Int) (s : PSt) : Option PSt :=
 if A6 3 [] s.1 then (match BW 3 [] s with | none => none | some (t, s1) => Es ⟨4, E0, t.n⟩ s1)
 else if A6 4 [] s.1 then (match BW 4 [] s with | none => none | some (t, s1) => Es ⟨5, t.t, 0⟩ s1)
 else if A6 1 [] s.1 then Ki s else none
def Fe (k : Int) (text : ByteArray) (step : Int) (other : Int → PSt → Option PSt) : Nat → Int → PSt → Option PSt
 | 0, _, _ => none
 | f + 1, d, s => if A6 k [text] s.1 then (match GC d s with | none => none | some s1 => match Fe k text step other f (d + 1) s1 with | none => none | some s2 => Es ⟨step, E0, 0⟩ s2) else other d s
def ops : List ByteArray := [⟨#[43]⟩, ⟨#[45]⟩, ⟨#[42]⟩, ⟨#[61]⟩, ⟨#[60, 62]⟩, ⟨#[60]⟩, ⟨#[60, 61]⟩, ⟨#[62]⟩, ⟨#[62, 61]⟩, ⟨#[65, 78, 68]⟩, ⟨#[79, 82]⟩]
def Eq (t : ByteArray) : ST := ⟨12 + Lib.idxOfS ops t, E0, 0⟩
def Kj (k : Int) (texts : List ByteArray) (one : Int → PSt → Option PSt) : Nat → Int → PSt → Option PSt
 | 0, _, _ => none
 | f + 1, d, s => match BW k texts s with
   | none => some s
   | some (t, s1) => if 0 ≤ Lib.idxOfS ops t.t then (match one d s1 with | none => none | some s2 => match Es (Eq t.t) s2 with | none => none | some s3 => Kj k texts one f d s3) else none
def Je (k : Int) (texts : List ByteArray) (one : Int → PSt → Option PSt) (f : Nat) (d : Int) (s : PSt) : Option PSt := match one d s with
 | none => none
 | some s1 => Kj k texts one f d s1
def Jf : Int → PSt → Option PSt := Fe 5 ⟨#[45]⟩ 9 Dy 3
def Hz : Int → PSt → Option PSt := Je 5 [⟨#[42]⟩] Jf 4
def Lo : Int → PSt → Option PSt := Je 5 [⟨#[43]⟩, ⟨#[45]⟩] Hz 4
def K1 : List ByteArray := [⟨#[61]⟩, ⟨#[60, 62]⟩, ⟨#[60]⟩, ⟨#[60, 61]⟩, ⟨#[62]⟩, ⟨#[62, 61]⟩]
def ED (d : Int) (s : PSt) : Option PSt := match Lo d s with
 | none => none
 | some s1 => match BW 5 K1 s1 with
   | some (t, s2) => if 0 ≤ Lib.idxOfS ops t.t then (match Lo d s2 with | none => none | some s3 => Es (Eq t.t) s3) else none
   | none => if A6 2 [⟨#[73, 83]⟩] s1.1 then none else some s1
def PH : Int → PSt → Option PSt := Fe 2 ⟨#[78, 79, 84]⟩ 10 ED 3
def Pc : Int → PSt → Option PSt := Je 2 [⟨#[65, 78, 68]⟩] PH 4
def orP : Int → PSt → Option PSt := Je 2 [⟨#[79, 82]⟩] Pc 4
def Eo : ByteArray := ⟨#[68, 69, 76, 69, 84, 69]⟩
def Fh : ByteArray := ⟨#[70, 82, 79, 77]⟩
def Ee : ByteArray := ⟨#[87, 72, 69, 82, 69]⟩
def K7 (l : List TK) : Option (ByteArray × List ST) :=
 match BW 2 [Eo] (l, []) with
 | none => none
 | some (_, s1) => match BW 2 [Fh] s1 with
   | none => none
   | some (_, s2) => match BW 1 [] s2 with
     | none => none
     | some (t, s3) => match BW 2 [Ee] s3 with
       | none => none
       | some (_, s4) => match orP 0 s4 with
         | none => none
         | some (r, st) => if r.isEmpty && BT t.t && Av st && decide (st.length ≠ 0) then some (t.t, st) else none
def Kd : ByteArray := ⟨#[68, 69, 76, 69, 84, 69, 32, 70, 82, 79, 77, 32, 116, 32, 87, 72, 69, 82, 69, 32]⟩
def Ij (s : ByteArray) : Option (List ST) := match DL (Kd ++ s) with
 | .error _ => none
 | .ok l => (K7 l).map (·.2)
/- The parser's state, and how it lies in memory; parse.cursor.next. -/
theorem CC {w : World} {b : Nat} {a0 a1 a2 a3 a4 : Value} {T : TypeId} (h : w.heap[b]? = some (.cells #[a0, a1, a2, a3, a4] T (0, 0))) :
  w.cell? ⟨b, 0, none⟩ = some a0 ∧ w.cell? ⟨b, 1, none⟩ = some a1 ∧ w.cell? ⟨b, 2, none⟩ = some a2 ∧ w.cell? ⟨b, 3, none⟩ = some a3 ∧ w.cell? ⟨b, 4, none⟩ = some a4 ∧ (∀ o, w.frozen? ⟨b, o, none⟩ = false) := by
 simp [World.cell?, World.frozen?, h]
def TokRow (w : World) (hi : Nat) (v : Value) (l : List TK) : Prop :=
 ∃ a c, v = .slice a l.length c ∧ l.length ≤ c ∧ c ≤ maxLen ∧ (l = [] ∨ ∃ b o, a = some ⟨b, o, none⟩ ∧ b < hi ∧ ∀ i (h : i < l.length), w.cell? ⟨b, o + i * 4, none⟩ = some (.int .u8 l[i].k) ∧ w.cell? ⟨b, o + i * 4 + 1, none⟩ = some (.string l[i].t) ∧ w.cell? ⟨b, o + i * 4 + 2, none⟩ = some (.int .i64 l[i].n) ∧ w.cell? ⟨b, o + i * 4 + 3, none⟩ = some (.int .i64 l[i].a))
theorem TokRow.below {w w' : World} {hi : Nat} {v : Value} {l : List TK} (h : TokRow w hi v l) (hb : Below hi w w') : TokRow w' hi v l := by
 obtain ⟨a, c, e, h1, h2, h3⟩ := h
 refine ⟨a, c, e, h1, h2, ?_⟩
 rcases h3 with h3 | ⟨b, o, ea, hlt, hc⟩
 · exact Or.inl h3
 · have k : ∀ o', w'.cell? ⟨b, o', none⟩ = w.cell? ⟨b, o', none⟩ := fun o' => hb.cell (p := ⟨b, o', none⟩) hlt
   exact Or.inr ⟨b, o, ea, hlt, fun i hi => by obtain ⟨q0, q1, q2, q3⟩ := hc i hi; exact ⟨(k _).trans q0, (k _).trans q1, (k _).trans q2, (k _).trans q3⟩⟩
def Bi : List ST → List Value
 | [] => []
 | s :: r => [.int .u8 s.k, .string s.t, .int .i64 s.n] ++ Bi r
theorem Fc : ∀ (l : List ST) (s : ST), Bi (l ++ [s]) = Bi l ++ [.int .u8 s.k, .string s.t, .int .i64 s.n]
 | [], s => rfl
 | x :: r, s => by simp [Bi, Fc r s]
def TxtRow (w : World) (v : Value) (l : List ByteArray) : Prop :=
 ∃ a c, v = .slice a l.length c ∧ l.length ≤ 100 ∧ (l = [] ∨ ∃ b o, a = some ⟨b, o, none⟩ ∧ b < w.heap.size ∧ ∀ j, j < l.length → w.cell? ⟨b, o + j, none⟩ = some (.string (l.getD j ByteArray.empty)))
def PB (w : World) (p : Nat) (left : Value) (E a : Int) (sv : Value) : Prop := w.heap[p]? = some (.cells #[left, .int .i64 E, .int .i64 0, .int .i64 a, sv] 129 (0, 0))
def PS (w : World) (p : Nat) (sv : Value) (s : PSt) : Prop :=
 ∃ left E a, PB w p left E a sv ∧ TokRow w p left s.1 ∧ w.ownsRow (p + 1) 43 3 sv s.2.length (Bi s.2)
theorem PS.lt {w : World} {p : Nat} {sv : Value} {s : PSt} (h : PS w p sv s) : p < w.heap.size := by
 obtain ⟨left, E, a, h1, _⟩ := h
 exact lt_of_block h1
theorem PS.keep {w w' : World} {p : Nat} {sv : Value} {s : PSt} (h : PS w p sv s) (hb : Below w.heap.size w w') : PS w' p sv s := by
 have hl := h.lt
 obtain ⟨left, E, a, h1, h2, h3⟩ := h
 exact ⟨left, E, a, blk hb h1, h2.below (hb.mono (Nat.le_of_lt hl)), AM h3 hb⟩
structure Fr (p : Nat) (sv : Value) (w : World) (sv' : Value) (w' : World) : Prop where
 below : Below p w w'
 size : w.heap.size ≤ w'.heap.size
 keep : ∀ b, b < w.heap.size → b ≠ p → sv.ownBlock ≠ some b → w'.heap[b]? = w.heap[b]?
 own : ∀ b, sv'.ownBlock = some b → sv.ownBlock = some b ∨ w.heap.size ≤ b
theorem Fr.of_below {p : Nat} {sv : Value} {w w' : World} (hb : Below w.heap.size w w') (hp : p < w.heap.size) : Fr p sv w sv w' :=
 ⟨hb.mono (Nat.le_of_lt hp), hb.size, fun b h _ _ => hb.block b h, fun b h => Or.inl h⟩
theorem Fr.trans {p : Nat} {sv sv1 sv2 : Value} {w w1 w2 : World} (h1 : Fr p sv w sv1 w1) (h2 : Fr p sv1 w1 sv2 w2) : Fr p sv w sv2 w2 :=
 ⟨h1.below.trans h2.below, Nat.le_trans h1.size h2.size, fun b hb hp hs => (h2.keep b (Nat.lt_of_lt_of_le hb h1.size) hp (fun e => by
  rcases h1.own b e with h | h
  · exact hs h
  · omega)).trans (h1.keep b hb hp hs), fun b e => by
  rcases h2.own b e with h | h
  · exact h1.own b h
  · exact Or.inr (Nat.le_trans h1.size h)⟩
theorem TxtRow.keep {w w' : World} {v : Value} {l : List ByteArray} (h : TxtRow w v l) (hb : Below w.heap.size w w') : TxtRow w' v l := by
 obtain ⟨a, c, e, h1, h2⟩ := h
 refine ⟨a, c, e, h1, ?_⟩
 rcases h2 with h2 | ⟨b, o, ea, hlt, hc⟩
 · exact Or.inl h2
 · exact Or.inr ⟨b, o, ea, Nat.lt_of_lt_of_le hlt hb.size, fun j hj => Ac hb (hc j hj)⟩
theorem CO (w : World) : TxtRow w (.slice none 0 0) [] := ⟨none, 0, rfl, Nat.zero_le _, Or.inl rfl⟩
set_option maxHeartbeats 1000000 in
theorem BU (k : Int) (texts : List ByteArray) (tv : Value) (p : Nat) (sv : Value) (s : PSt) (w : World) (hP : PS w p sv s) (hT : TxtRow w tv texts) :
   Calls Tryz.prog 145 #[.pointer (some ⟨p, 0, none⟩), .int .u8 k, tv] w fun e w' => e = .returned (.bool (A6 k texts s.1)) ∧ w' = w := by
 obtain ⟨ts, st⟩ := s
 obtain ⟨left, E, a, hB, ⟨la, lc, rfl, hlc, hcm, hrow⟩, hO⟩ := hP
 obtain ⟨b0, b1, b2, b3, b4, b5⟩ := CC hB
 simp only at hlc hrow b0 ⊢
 clear hB hO b1 b2 b3 b4 b5
 unfold maxLen at hcm
 cases ts with
 | nil =>
   simp only [List.length_nil] at b0
   unfold A6
   clear hrow hT hlc
   go_enter Tryz.func145, Tryz.ntmps145
   go_wp2_with fail
   go_ret
   exact ⟨rfl, rfl⟩
 | cons t r =>
   rcases hrow with h0 | ⟨b, o, rfl, hlt, hc⟩
   · cases h0
   obtain ⟨c0, c1, c2, c3⟩ := hc 0 (by simp)
   simp only [Nat.zero_mul, Nat.add_zero, List.getElem_cons_zero] at c0 c1
   simp only [List.length_cons] at b0 hlc
   obtain ⟨m, hm⟩ : ∃ m, r.length + 1 = m := ⟨_, rfl⟩
   rw [hm] at b0 hlc
   have hm0 : 0 < m := by omega
   rw [show A6 k texts (t :: r) = (t.k == k && (texts.isEmpty || Lib.containsS texts t.t)) from rfl]
   clear hc c2 c3
   cases hk : (t.k == k) with
   | false =>
     rw [Bool.false_and]
     clear hT hm
     go_enter Tryz.func145, Tryz.ntmps145
     go_wp2_with fail
     go_ret
     exact ⟨rfl, rfl⟩
   | true =>
     rw [Bool.true_and]
     obtain ⟨ta, tc, rfl, hl100, htx⟩ := hT
     rcases htx with rfl | ⟨tb, tq, rfl, htb, htc⟩
     · clear hm
       go_enter Tryz.func145, Tryz.ntmps145
       go_wp2_with fail
       go_ret
       exact ⟨rfl, rfl⟩
     · cases texts with
       | nil =>
         clear hm
         go_enter Tryz.func145, Tryz.ntmps145
         go_wp2_with fail
         go_ret
         exact ⟨rfl, rfl⟩
       | cons x xs =>
         have HC0 := Tryz.slices_Contains_string tb tq (x :: xs).length tc (x :: xs) t.t w (Nat.le_refl _) (by omega) htc
         rw [List.take_of_length_le (Nat.le_refl _)] at HC0
         obtain ⟨n, hn⟩ : ∃ n, (x :: xs).length = n := ⟨_, rfl⟩
         rw [hn] at HC0 hl100
         have hn1 : 1 ≤ n := by rw [← hn]; simp
         have HC := Lib.hid HC0
         rw [hn]
         rw [show (x :: xs).isEmpty = false from rfl, Bool.false_or]
         generalize Lib.containsS (x :: xs) t.t = z at *
         have q1 : ((n : Int) == 0) = false := by simp; omega
         clear hn htc HC0 hm
         cases z with
         | true =>
           go_enter Tryz.func145, Tryz.ntmps145
           go_wp2_with (go_at_call 168; refine (HC.out).mono ?_; rintro e w7 ⟨rfl, rfl⟩)
           go_ret
           exact ⟨rfl, rfl⟩
         | false =>
           go_enter Tryz.func145, Tryz.ntmps145
           go_wp2_with (go_at_call 168; refine (HC.out).mono ?_; rintro e w7 ⟨rfl, rfl⟩)
           go_ret
           exact ⟨rfl, rfl⟩
/- parse.cursor.take. -/
abbrev QI : Value := .agg #[.int .u8 0, .string ⟨#[]⟩, .int .i64 0, .int .i64 0]
abbrev C6 : Obj := .cells #[.int .u8 0, .string ⟨#[]⟩, .int .i64 0, .int .i64 0] 158
abbrev TK.val (t : TK) : Value := .agg #[.int .u8 t.k, .string t.t, .int .i64 t.n, .int .i64 t.a]
set_option maxHeartbeats 1000000 in
theorem GF (k : Int) (texts : List ByteArray) (tv : Value) (p : Nat) (sv : Value) (s : PSt) (w : World) (hP : PS w p sv s) (hT : TxtRow w tv texts) (hn : A6 k texts s.1 = false) :
  Calls Tryz.prog 117 #[.pointer (some ⟨p, 0, none⟩), .int .u8 k, tv] w fun e w' => e = .returned (.tuple #[QI, .bool false]) ∧ Below w.heap.size w w' := by
 have H0 := BU k texts tv p sv s (w.alloc C6) (hP.keep (Ad _)) (hT.keep (Ad _))
 rw [hn] at H0
 have H := Lib.hid H0
 have hl := hP.lt
 clear H0 hP hT hn
 go_enter Tryz.func117, Tryz.ntmps117
 go_wp2_with (go_at_call 145; refine (H.out).mono ?_; rintro e w7 ⟨rfl, rfl⟩)
 refine bodyPost_ret (v := .tuple #[QI, .bool false]) (by simp [results, Tryz.results117, go_sem]) rfl ?_
 exact ⟨rfl, Ad _⟩
theorem Lq {w w' : World} {p : Nat} {sv : Value} {t : TK} {r : List TK} {st : List ST} {a a' : Option Addr} {c c' : Nat} {E at' : Int} (hB : PB w p (.slice a (r.length + 1) c) E at' sv) (hrow : ∃ b o, a = some ⟨b, o, none⟩ ∧ b < p ∧ ∀ i (h : i < (t :: r).length), w.cell? ⟨b, o + i * 4, none⟩ = some (.int .u8 (t :: r)[i].k) ∧ w.cell? ⟨b, o + i * 4 + 1, none⟩ = some (.string (t :: r)[i].t) ∧ w.cell? ⟨b, o + i * 4 + 2, none⟩ = some (.int .i64 (t :: r)[i].n) ∧ w.cell? ⟨b, o + i * 4 + 3, none⟩ = some (.int .i64 (t :: r)[i].a))
   (hc : c = c' + 1) (hm : c ≤ maxLen) (hl : r.length ≤ c') (ha : r = [] ∨ ∃ b o, a = some ⟨b, o, none⟩ ∧ a' = some ⟨b, o + 4, none⟩)
   (hO : w.ownsRow (p + 1) 43 3 sv st.length (Bi st)) (hW : PB w' p (.slice a' r.length c') E at' sv) (hb : Below p w w') (hO' : w'.ownsRow (p + 1) 43 3 sv st.length (Bi st)) : PS w' p sv (r, st) := by
 refine ⟨_, E, at', hW, ⟨a', c', rfl, hl, by omega, ?_⟩, hO'⟩
 rcases ha with h0 | ⟨b, o, e1, e2⟩
 · exact Or.inl h0
 · obtain ⟨b2, o2, e3, hlt, hcl⟩ := hrow
   rw [e1] at e3
   cases e3
   have k : ∀ o', w'.cell? ⟨b, o', none⟩ = w.cell? ⟨b, o', none⟩ := fun o' => hb.cell (p := ⟨b, o', none⟩) hlt
   refine Or.inr ⟨b, o + 4, e2, hlt, fun i hi => ?_⟩
   have h1 := hcl (i + 1) (by simpa using hi)
   rw [show o + (i + 1) * 4 = o + 4 + i * 4 by omega] at h1
   simp only [List.getElem_cons_succ] at h1
   exact ⟨(k _).trans h1.1, (k _).trans h1.2.1, (k _).trans h1.2.2.1, (k _).trans h1.2.2.2⟩
theorem KB {w W : World} {p o : Nat} {sv v : Value} (hl : p < w.heap.size) (hD : Below w.heap.size w W) : Fr p sv w sv (W.setCell ⟨p, o, none⟩ v) := by
 have hb : Below p w (W.setCell ⟨p, o, none⟩ v) := (hD.mono (Nat.le_of_lt hl)).setCell (p := ⟨p, o, none⟩) (Nat.le_refl _) _
 refine ⟨hb, hb.size, fun b hb2 hne _ => ?_, fun b h => Or.inl h⟩
 rw [Below.heap_setCell _ _ _ _ hne]
 exact hD.block b hb2
theorem GA {w W : World} {p g o : Nat} {sv sv' : Value} {us : List Value} (h : Fr p sv w sv' W) (hp : p < w.heap.size) (hg : w.heap.size ≤ g) : Fr p sv w sv' (W.setCells g o us) := by
 refine ⟨Ag (by omega) _ _ _ h.below, by rw [Ay]; exact h.size, fun b hb hne hs => ?_, h.own⟩
 have h1 := h.keep b hb hne hs
 obtain ⟨x, hx⟩ : ∃ x, w.heap[b]? = some x := ⟨_, Array.getElem?_eq_getElem hb⟩
 rw [hx] at h1 ⊢
 exact B7 (by omega) _ _ _ h1
set_option maxHeartbeats 2000000 in
theorem D3 (k : Int) (texts : List ByteArray) (tv : Value) (p : Nat) (sv : Value) (t : TK) (r : List TK) (st : List ST) (w : World) (hP : PS w p sv (t :: r, st)) (hT : TxtRow w tv texts) (hn : A6 k texts (t :: r) = true) :
   Calls Tryz.prog 117 #[.pointer (some ⟨p, 0, none⟩), .int .u8 k, tv] w fun e w' => e = .returned (.tuple #[t.val, .bool true]) ∧ PS w' p sv (r, st) ∧ Fr p sv w sv w' := by
 have H0 := BU k texts tv p sv (t :: r, st) (w.alloc C6) (hP.keep (Ad _)) (hT.keep (Ad _))
 rw [hn] at H0
 have H := Lib.hid H0
 have hl := hP.lt
 have HP := Lib.hid hP
 obtain ⟨left, E, a, hB, ⟨la, lc, rfl, hlc, hcm, hrow⟩, hO⟩ := hP
 simp only [List.length_cons] at hB hlc
 rcases hrow with h0 | hrow
 · cases h0
 have HROW := Lib.hid hrow
 obtain ⟨b, o, rfl, hlt, hc⟩ := hrow
 obtain ⟨c0, c1, c2, c3⟩ := hc 0 (by simp)
 simp only [Nat.zero_mul, Nat.add_zero, List.getElem_cons_zero] at c0 c1 c2 c3
 have HB := Lib.hid hB
 have HO := Lib.hid hO
 have HCM := Lib.hid hcm
 obtain ⟨c', rfl⟩ : ∃ c', lc = c' + 1 := ⟨lc - 1, by omega⟩
 unfold maxLen at hcm
 obtain ⟨m, hm⟩ : ∃ m, r.length = m := ⟨_, rfl⟩
 rw [hm] at hB hlc
 have HM := Lib.hid hm
 clear H0 hT hn hO hc hm
 go_enter Tryz.func117, Tryz.ntmps117
 have hb1 := Af (o := C6) hB
 obtain ⟨b0, b1, b2, b3, b4, b5⟩ := CC hb1
 have k0 := Ac (Ad C6) c0
 have k1 := Ac (Ad C6) c1
 have k2 := Ac (Ad C6) c2
 have k3 := Ac (Ad C6) c3
 go_upto_region 4 with (go_at_call 145; refine (H.out).mono ?_; rintro e w7 ⟨rfl, rfl⟩)
 have hz := Ab w C6
 have hz2 := Af (o := .cells #[.int .u8 t.k, .string t.t, .int .i64 t.n, .int .i64 t.a] 158) hz
 have hk := Ab (w.alloc C6) (.cells #[.int .u8 t.k, .string t.t, .int .i64 t.n, .int .i64 t.a] 158)
 have hp2 := Af (o := .cells #[.int .u8 t.k, .string t.t, .int .i64 t.n, .int .i64 t.a] 158) hb1
 have hD := Aj (w := w) C6 (.cells #[.int .u8 t.k, .string t.t, .int .i64 t.n, .int .i64 t.a] 158)
 have esz : (w.alloc C6).heap.size = w.heap.size + 1 := by simp
 rw [esz] at hk
 generalize (w.alloc C6).alloc (.cells #[.int .u8 t.k, .string t.t, .int .i64 t.n, .int .i64 t.a] 158) = W at *
 clear b0 b1 b2 b3 b4 b5 k0 k1 k2 k3 hz esz c0 c1 c2 c3 hB
 have HZ := Lib.hid hz2
 have HK := Lib.hid hk
 have HP2 := Lib.hid hp2
 have HD := Lib.hid hD
 obtain ⟨b0, b1, b2, b3, b4, b5⟩ := CC hp2
 clear hz2 hk hp2 hD
 have HA : Hid (r = [] ∨ (if c' = 0 then some (⟨b, o, none⟩ : Addr) else some ⟨b, o + 4, none⟩) = some ⟨b, o + 4, none⟩) := Lib.hid (by
   by_cases h : c' = 0
   · have hm0 := HM.out
     exact Or.inl (List.length_eq_zero_iff.1 (by omega))
   · exact Or.inr (if_neg h))
 go_upto_region 5 with (fail)
 clear b0 b1 b2 b3 b4 b5
 have hp3 := heap_setCell_same W p 0 _ _ (.slice (if c' = 0 then some (⟨b, o, none⟩ : Addr) else some ⟨b, o + 4, none⟩) m c') HP2.out
 have hz3 := B9 (g := p) (o := 0) (v := .slice (if c' = 0 then some (⟨b, o, none⟩ : Addr) else some ⟨b, o + 4, none⟩) m c') (by omega) HZ.out
 have hk3 := B9 (g := p) (o := 0) (v := .slice (if c' = 0 then some (⟨b, o, none⟩ : Addr) else some ⟨b, o + 4, none⟩) m c') (by omega) HK.out
 have hf3 := KB (o := 0) (sv := sv) (v := .slice (if c' = 0 then some (⟨b, o, none⟩ : Addr) else some ⟨b, o + 4, none⟩) m c') hl HD.out
 have ho3 := Cq (o := 0) (u := .slice (if c' = 0 then some (⟨b, o, none⟩ : Addr) else some ⟨b, o + 4, none⟩) m c') (AM HO.out HD.out) (Db HO.out (Nat.lt_succ_self p))
 generalize (if c' = 0 then some (⟨b, o, none⟩ : Addr) else some ⟨b, o + 4, none⟩) = A at *
 generalize W.setCell ⟨p, 0, none⟩ (.slice A m c') = W2 at *
 have HP3 := Lib.hid hp3
 have HF3 := Lib.hid hf3
 have HO3 := Lib.hid ho3
 obtain ⟨z0, z1, z2, z3, z4⟩ := AH hz3
 obtain ⟨k0, k1, k2, k3, k4⟩ := AH hk3
 clear hp3 hf3 ho3 hz3 hk3 HZ HK HP2
 go_wp2_with fail
 refine bodyPost_ret (v := .tuple #[t.val, .bool true]) (by simp [results, Tryz.results117, go_sem, Ai, z0, z1, z2, z3]) rfl ?_
 have hl2 : p < w.heap.size := hl
 refine ⟨rfl, ?_, GA (us := [_, _, _, _]) HF3.out hl (Nat.le_refl _)⟩
 refine Lq (a' := A) (c' := c') HB.out HROW.out rfl HCM.out (by have := HM.out; omega) ?_ HO.out ?_ (Ag (Nat.le_of_lt hl) [_, _, _, _] _ _ HF3.out.below) ?_
 · rcases HA.out with h | h
   · exact Or.inl h
   · exact Or.inr ⟨b, o, rfl, h⟩
 · rw [HM.out]
   exact B7 (by omega) [_, _, _, _] _ _ HP3.out
 · have hne : sv.ownBlock ≠ some w.heap.size := fun e => by have := (HO.out.lt _ e).2; omega
   exact Cz hne [_, _, _, _] _ _ HO3.out
end Go.Proofs.YtbemgcjckchdjaaGreatDoor
