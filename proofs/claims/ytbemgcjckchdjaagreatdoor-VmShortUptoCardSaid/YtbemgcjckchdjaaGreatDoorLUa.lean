import Derived.Test.YtbemgcjckchdjaaGreatDoorLRc
import Derived.Deep.AppendLies
import Derived.Test.YtbemgcjckchdjaaGreatDoorLMd
import Derived.KernelRfl
/- codicillaw11.with: a step behind an expression. -/
namespace Go.Proofs.YtbemgcjckchdjaaGreatDoor
open Go.RowKit
set_option linter.unusedSimpArgs false
set_option linter.unusedVariables false
theorem DN : ∀ l : List ST, (Bi l).length = l.length * 3
 | [] => rfl
 | s :: r => by
   show ([_, _, _] ++ Bi r).length = _
   rw [List.length_append, DN r]
   simp
   omega
theorem LT {w : World} {l : List ST} {b o : Nat} (h : StepsAt w l b o) : ∀ j u, (Bi l)[j]? = some u → w.cell? ((⟨b, o, none⟩ : Addr).add j) = some u := by
 intro j u hj
 have hjl : j < l.length * 3 := by
   rw [← DN]
   rcases Nat.lt_or_ge j (Bi l).length with h' | h'
   · exact h'
   · rw [List.getElem?_eq_none h'] at hj; cases hj
 obtain ⟨i, r, hr, rfl⟩ : ∃ i r, r < 3 ∧ j = i * 3 + r := ⟨j / 3, j % 3, Nat.mod_lt _ (by decide), by omega⟩
 have hi : i < l.length := by omega
 obtain ⟨a0, a1, a2⟩ := Gv l i hi
 obtain ⟨c0, c1, c2⟩ := h i hi
 rw [AS, ← Nat.add_assoc]
 obtain rfl | rfl | rfl : r = 0 ∨ r = 1 ∨ r = 2 := by omega
 · rw [Nat.add_zero] at hj ⊢; rw [a0] at hj; cases hj; exact c0
 · rw [a1] at hj; cases hj; exact c1
 · rw [a2] at hj; cases hj; exact c2
theorem I2 : ∀ l : List ST, ∀ u ∈ Bi l, u.oneCell' = true
 | [], u, h => by cases h
 | s :: r, u, h => by
   have h : u ∈ [Value.int .u8 s.k, .string s.t, .int .i64 s.n] ++ Bi r := h
   simp only [List.cons_append, List.nil_append, List.mem_cons] at h
   rcases h with rfl | rfl | rfl | h
   · rfl
   · rfl
   · rfl
   · exact I2 r u h
theorem RowS.cells {w : World} {l : List ST} {A : Option Addr} (h : RowS w l A) (hl : 0 < l.length) : ∃ b o, A = some ⟨b, o, none⟩ ∧ b < w.heap.size ∧ StepsAt w l b o := by
 rcases h with h | ⟨b, o, e, hs⟩
 · omega
 · exact ⟨b, o, e, World.block_lt_of_cell? w _ (hs 0 hl).1, hs⟩
theorem Qp {W : World} {v0 v1 v2 : Value} {T : TypeId} : ∀ j u, [v0, v1, v2][j]? = some u → (W.alloc (.cells #[v0, v1, v2] T)).cell? ((⟨W.heap.size, 0, none⟩ : Addr).add j) = some u := by
 intro j u h
 obtain ⟨c0, c1, c2, _⟩ := Ak (Ab W (.cells #[v0, v1, v2] T))
 rw [AS, Nat.zero_add]
 match j, h with
 | 0, h => cases h; exact c0
 | 1, h => cases h; exact c1
 | 2, h => cases h; exact c2
/- Right expressions behind one another (plain). -/
theorem Hf (row : VT) (s : ST) (l : List ST) (stk : List Rz) : B4 row (s :: l) stk = B4 row l (BV row stk s) := rfl
theorem FE (row : VT) (a b : List ST) (stk : List Rz) : B4 row (a ++ b) stk = B4 row b (B4 row a stk) := by
 unfold B4
 rw [List.foldl_append]
theorem Dq {m : Int} {s : ST} {m' : Int} (h : As (some m) s = some m') : s.ok = true ∧ 0 ≤ s.takes ∧ s.takes ≤ m ∧ m' = m - (s.takes - 1) := by
 by_cases hc : (s.ok && decide (s.takes ≤ m)) = true
 · have e : As (some m) s = some (m - (s.takes - 1)) := if_pos hc
   rw [e] at h
   simp only [Bool.and_eq_true, decide_eq_true_eq] at hc
   exact ⟨hc.1, (Bn s hc.1).1, hc.2, (Option.some.inj h).symm⟩
 · have e : As (some m) s = none := if_neg hc
   rw [e] at h
   cases h
theorem Dp {m : Int} {s : ST} {l : List ST} {m' : Int} (h : (s :: l).foldl As (some m) = some m') : ∃ m1, As (some m) s = some m1 ∧ l.foldl As (some m1) = some m' := by
 rw [List.foldl_cons] at h
 cases hs : As (some m) s with
 | none => rw [hs, Eu] at h; cases h
 | some m1 => rw [hs] at h; exact ⟨m1, rfl, h⟩
theorem Hg (row : VT) : ∀ (l : List ST) (m : Int) (s0 stk : List Rz), l.foldl As (some (s0.length : Int)) = some m → B4 row l (stk ++ s0) = stk ++ B4 row l s0 ∧ ((B4 row l s0).length : Int) = m
 | [], m, s0, stk, h => by
   have : (s0.length : Int) = m := Option.some.inj h
   exact ⟨rfl, this⟩
 | s :: l, m, s0, stk, h => by
   obtain ⟨m1, h1, h2⟩ := Dp h
   obtain ⟨hok, t0, tl, e⟩ := Dq h1
   have ht : (s.takes.toNat : Int) = s.takes := by omega
   have htl : s.takes.toNat ≤ s0.length := by omega
   have hlen : (BV row s0 s).length = s0.length - s.takes.toNat + 1 := by
    unfold BV
    rw [List.length_append, List.length_take]
    simp
   have hst : BV row (stk ++ s0) s = stk ++ BV row s0 s := by
    unfold BV
    rw [List.length_append, show stk.length + s0.length - s.takes.toNat = stk.length + (s0.length - s.takes.toNat) by omega, List.take_append, List.drop_append]
    rw [List.take_of_length_le (by omega), List.drop_of_length_le (by omega)]
    simp [Nat.add_sub_cancel_left]
   have ih := Hg row l m (BV row s0 s) stk (by rw [hlen, ← h2, e]; congr 2; omega)
   rw [Hf, hst, Hf]
   exact ih
theorem GY : ∀ (l : List ST) (m m' j : Int), 0 ≤ j → l.foldl As (some m) = some m' → l.foldl As (some (m + j)) = some (m' + j)
 | [], m, m', j, hj, h => by cases h; rfl
 | s :: l, m, m', j, hj, h => by
   obtain ⟨m1, h1, h2⟩ := Dp h
   obtain ⟨hok, t0, tl, e⟩ := Dq h1
   have h3 : As (some (m + j)) s = some (m1 + j) := by
    have hc : (s.ok && decide (s.takes ≤ m + j)) = true := by simp [hok]; omega
    have e2 : As (some (m + j)) s = some (m + j - (s.takes - 1)) := if_pos hc
    rw [e2, e]
    congr 1
    omega
   rw [List.foldl_cons, h3]
   exact GY l m1 m' j hj h2
theorem Fb {a : List ST} (h : AG a = some 1) (row : VT) (stk : List Rz) : B4 row a stk = stk ++ [Bm row a] := by
 obtain ⟨h1, h2⟩ := Hg row a 1 [] stk h
 rw [List.append_nil] at h1
 rw [h1]
 congr 1
 unfold Bm
 match hs : B4 row a [], h2 with
 | [x], _ => rfl
theorem JE {a : List ST} (h : AG a = some 1) : 0 < a.length := by
 cases a with
 | nil => cases h
 | cons s r => simp
theorem I0 {a b : List ST} (ha : AG a = some 1) (hb : AG b = some 1) : AG (a ++ b) = some 2 := by
 unfold AG
 rw [List.foldl_append]
 have h1 : a.foldl As (some 0) = some 1 := ha
 rw [h1]
 exact GY b 0 1 1 (by decide) hb
theorem F8 {l : List ST} {s : ST} {m m' : Int} (h : AG l = some m) (hs : As (some m) s = some m') : AG (l ++ [s]) = some m' := by
 unfold AG at *
 rw [List.foldl_append, h]
 exact hs
theorem C4 {l : List ST} (h : Av l = true) : AG l = some 1 ∧ l.length ≤ 128 := Fa h
theorem H6 {l : List ST} (h : AG l = some 1) (hl : l.length ≤ 128) : Av l = true := by
 unfold Av
 simp [h, hl]
theorem Od {k : Int} (h : 12 ≤ k ∧ k ≤ 22) : As (some 2) (oP k) = some 1 := by
 obtain rfl | rfl | rfl | rfl | rfl | rfl | rfl | rfl | rfl | rfl | rfl : k = 12 ∨ k = 13 ∨ k = 14 ∨ k = 15 ∨ k = 16 ∨ k = 17 ∨ k = 18 ∨ k = 19 ∨ k = 20 ∨ k = 21 ∨ k = 22 := by omega
 all_goals kernel_rfl
theorem Sx {k : Int} (h : 9 ≤ k ∧ k ≤ 11) : As (some 1) (oP k) = some 1 := by
 obtain rfl | rfl | rfl : k = 9 ∨ k = 10 ∨ k = 11 := by omega
 all_goals kernel_rfl
theorem OP {k : Int} (h : 12 ≤ k ∧ k ≤ 22) : (oP k).takes = 2 := by
 show AJ k 0 = 2
 unfold AJ
 rw [if_neg (by omega), if_neg (by omega), if_neg (by omega)]
theorem OO {k : Int} (h : 9 ≤ k ∧ k ≤ 11) : (oP k).takes = 1 := by
 show AJ k 0 = 1
 unfold AJ
 rw [if_neg (by omega), if_neg (by omega), if_pos h]
theorem Qz {a b : List ST} (ha : AG a = some 1) (hb : AG b = some 1) {k : Int} (hk : 12 ≤ k ∧ k ≤ 22) (row : VT) : Bm row (a ++ b ++ [oP k]) = AX (oP k) row [Bm row a, Bm row b] := by
 have h : B4 row (a ++ b ++ [oP k]) [] = [AX (oP k) row [Bm row a, Bm row b]] := by
  rw [FE, FE, Fb ha, Fb hb, List.nil_append]
  show BV row ([Bm row a] ++ [Bm row b]) (oP k) = _
  unfold BV
  rw [OP hk]
  rfl
 unfold Bm
 rw [show B4 row (a ++ b ++ [oP k]) [] = _ from h]
 rfl
theorem Qy {a : List ST} (ha : AG a = some 1) {k : Int} (hk : 9 ≤ k ∧ k ≤ 11) (row : VT) : Bm row (a ++ [oP k]) = AX (oP k) row [Bm row a] := by
 have h : B4 row (a ++ [oP k]) [] = [AX (oP k) row [Bm row a]] := by
  rw [FE, Fb ha, List.nil_append]
  show BV row [Bm row a] (oP k) = _
  unfold BV
  rw [OO hk]
  rfl
 unfold Bm
 rw [show B4 row (a ++ [oP k]) [] = _ from h]
 rfl
theorem Te {a b : List ST} (ha : Av a = true) (hb : Av b = true) {k : Int} (hk : 12 ≤ k ∧ k ≤ 22) {row : VT} (hc : Ao row 0 = 0) (hl : a.length + b.length + 1 ≤ 128) : Av (a ++ b ++ [oP k]) = true ∧ Bj (a ++ b ++ [oP k]) row = AX (oP k) row [Bm row a, Bm row b] := by
 have h1 := (C4 ha).1
 have h2 := (C4 hb).1
 have hr : Av (a ++ b ++ [oP k]) = true := H6 (F8 (I0 h1 h2) (Od hk)) (by simp; omega)
 refine ⟨hr, ?_⟩
 unfold Bj
 rw [hr, if_pos rfl, if_pos hc, Qz h1 h2 hk]
theorem Td {a : List ST} (ha : Av a = true) {k : Int} (hk : 9 ≤ k ∧ k ≤ 11) {row : VT} (hc : Ao row 0 = 0) (hl : a.length + 1 ≤ 128) : Av (a ++ [oP k]) = true ∧ Bj (a ++ [oP k]) row = AX (oP k) row [Bm row a] := by
 have h1 := (C4 ha).1
 have hr : Av (a ++ [oP k]) = true := H6 (F8 h1 (Sx hk)) (by simp; omega)
 refine ⟨hr, ?_⟩
 unfold Bj
 rw [hr, if_pos rfl, if_pos hc, Qy h1 hk]
theorem Tg {a : List ST} {row v : VT} (h : Bj a row = (v, 0)) : Av a = true ∧ Ao row 0 = 0 ∧ Bm row a = (v, 0) := by
 unfold Bj at h
 split at h
 · rename_i hr
   split at h
   · rename_i hc
     exact ⟨hr, hc, h⟩
   · rename_i hc
     exact absurd (congrArg Prod.snd h) hc
 · cases h
theorem RT {k : Int} (hk : k = 21 ∨ k = 22) (row : VT) (u v : Rz) : AX (oP k) row [u, v] = B3 (k == 22) u v := by
 unfold AX
 rw [if_neg (by simp; omega), if_neg (by simp; omega), if_pos hk]
 rfl
theorem Sy {k : Int} (hk : 12 ≤ k ∧ k ≤ 20) (row : VT) (u v : Rz) : AX (oP k) row [u, v] = Dm k [u, v] := by
 unfold AX
 rw [if_neg (by simp; omega), if_neg (by simp; omega), if_neg (by simp; omega), if_neg (by simp)]
/- ExprNull: the plain law. -/
theorem SE {k : Int} {b : Bool} {n : Int} {s : ByteArray} {l : VL} {f : FL} {d : Int} (h : Ao (.mk k b n s l f) d = 0) : CW k b n s l.len f.len d = 0 ∧ BH l (d + 1) = 0 ∧ Cu Ez f (d + 1) = 0 := by
 unfold Ao at h
 by_cases h1 : CW k b n s l.len f.len d ≠ 0
 · rw [if_pos h1] at h; exact absurd h h1
 · rw [if_neg h1] at h
   by_cases h2 : BH l (d + 1) ≠ 0
   · rw [if_pos h2] at h; exact absurd h h2
   · rw [if_neg h2] at h
     exact ⟨Classical.not_not.1 h1, Classical.not_not.1 h2, h⟩
theorem M5 : ∀ (l : VL) (d : Int) (i : Nat) (t : VT), BH l d = 0 → l.get? i = some t → Ao t d = 0
 | .nil, d, i, t, h, e => by simp [VL.get?] at e
 | .cons x r, d, i, t, h, e => by
   unfold BH at h
   by_cases hx : Ao x d ≠ 0
   · rw [if_pos hx] at h; exact absurd h hx
   · rw [if_neg hx] at h
     cases i with
     | zero =>
       have : x = t := by simpa [VL.get?] using e
       subst this
       exact Classical.not_not.1 hx
     | succ i => exact M5 r d i t h (by simpa [VL.get?] using e)
theorem M4 : ∀ (f : FL) (last : ByteArray) (d : Int) (i : Nat) (s : ByteArray) (t : VT), Cu last f d = 0 → f.get? i = some (s, t) → Ao t d = 0
 | .nil, last, d, i, s, t, h, e => by simp [FL.get?] at e
 | .cons n x r, last, d, i, s, t, h, e => by
   unfold Cu at h
   by_cases h1 : AR [CL n, Br (Op.bytesLess last.toList n.toList) 18] ≠ 0
   · rw [if_pos h1] at h; exact absurd h h1
   · rw [if_neg h1] at h
     by_cases hx : Ao x d ≠ 0
     · rw [if_pos hx] at h; exact absurd h hx
     · rw [if_neg hx] at h
       cases i with
       | zero =>
         have : n = s ∧ x = t := by simpa [FL.get?] using e
         rw [← this.2]
         exact Classical.not_not.1 hx
       | succ i => exact M4 r n d i s t h (by simpa [FL.get?] using e)
section
variable {a : List ST} {row v : VT} {k : Int}
end
/- A value in a box; the steps of ExprNull. -/
def RowBox (g : Nat) (t : VT) (w : World) (c0 c1 c2 c3 c4 c5 : Value) : Prop := w.heap[g]? = some (.cells #[c0, c1, c2, c3, c4, c5] 27 (0, 0)) ∧ RV w 0 w.heap.size t [c0, c1, c2, c3, c4, c5]
theorem RowBox.keep {g : Nat} {t : VT} {w w' : World} {c0 c1 c2 c3 c4 c5 : Value} (h : RowBox g t w c0 c1 c2 c3 c4 c5) (hb : Below w.heap.size w w') : RowBox g t w' c0 c1 c2 c3 c4 c5 := ⟨blk hb h.1, h.2.grow hb⟩
mutual
theorem CU : ∀ t : VT, C5 t t = true
 | .mk k b n s l f => by
   unfold C5 DR
   rw [Hb l, Ha f]
   simp
theorem Hb : ∀ l : VL, Cj l l = true
 | .nil => rfl
 | .cons t r => by
   unfold Cj
   rw [CU t, Hb r]
   rfl
theorem Ha : ∀ f : FL, Ci f f = true
 | .nil => rfl
 | .cons s t r => by
   unfold Ci
   rw [CU t, Ha r]
   simp
end
/- A result in a box that has just been made. -/
theorem Ct {w w' : World} {t : VT} {k : Int} {b : Bool} {n : Int} {s : ByteArray} {l : VL} {f : FL} {lo : Nat} {a1 a2 : Option Addr} {c1 c2 : Nat} (e : w'.alloc (.cells #[.int .u8 k, .bool b, .int .i64 n, .string s, .slice a1 l.len c1, .slice a2 f.len c2] 27) = w) (hv : RV w' lo w'.heap.size t [.int .u8 k, .bool b, .int .i64 n, .string s, .slice a1 l.len c1, .slice a2 f.len c2]) :
  RowBox w'.heap.size t w (.int .u8 k) (.bool b) (.int .i64 n) (.string s) (.slice a1 l.len c1) (.slice a2 f.len c2) := by
 have hb := Ad (w := w') (.cells #[.int .u8 k, .bool b, .int .i64 n, .string s, .slice a1 l.len c1, .slice a2 f.len c2] 27)
 rw [← e]
 exact ⟨Ab _ _, RV.keep (Same.of_below hb) (Nat.zero_le _) hb.size _ _ hv⟩
end Go.Proofs.YtbemgcjckchdjaaGreatDoor
