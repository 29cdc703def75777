import Derived.Test.YtgjgllfeinjpnaaGreatDoorKRc
import Derived.KernelRfl
import Derived.Test.YtgjgllfeinjpnaaGreatDoorKRe
/- ExprOrder: the plain law. No program in sight. -/
namespace Go.Proofs.YtgjgllfeinjpnaaGreatDoor
open Go.RowKit
set_option linter.unusedSimpArgs false
set_option linter.unusedVariables false
set_option maxRecDepth 100000
/-- the row { a: x, b: y } -/
abbrev row2 (x y : VT) : VT := structV (.cons nA x (.cons nB y .nil))
/-- a = b, a <> b, a < b, a <= b, a > b, a >= b -/
def to0 : ByteArray := ⟨#[97, 32, 61, 32, 98]⟩
def to1 : ByteArray := ⟨#[97, 32, 60, 62, 32, 98]⟩
def to2 : ByteArray := ⟨#[97, 32, 60, 32, 98]⟩
def to3 : ByteArray := ⟨#[97, 32, 60, 61, 32, 98]⟩
def to4 : ByteArray := ⟨#[97, 32, 62, 32, 98]⟩
def to5 : ByteArray := ⟨#[97, 32, 62, 61, 32, 98]⟩
def so (k : Int) : List ST := [pA, pB, oP k]
theorem cono0 : condP to0 = some (so 15) := by kernel_rfl
theorem cono1 : condP to1 = some (so 16) := by kernel_rfl
theorem cono2 : condP to2 = some (so 17) := by kernel_rfl
theorem cono3 : condP to3 = some (so 18) := by kernel_rfl
theorem cono4 : condP to4 = some (so 19) := by kernel_rfl
theorem cono5 : condP to5 = some (so 20) := by kernel_rfl
theorem goodo15 : goodB (so 15) = true := by kernel_rfl
theorem goodo16 : goodB (so 16) = true := by kernel_rfl
theorem goodo17 : goodB (so 17) = true := by kernel_rfl
theorem goodo18 : goodB (so 18) = true := by kernel_rfl
theorem goodo19 : goodB (so 19) = true := by kernel_rfl
theorem goodo20 : goodB (so 20) = true := by kernel_rfl
theorem righto15 : rightB (so 15) = true := by kernel_rfl
theorem righto16 : rightB (so 16) = true := by kernel_rfl
theorem righto17 : rightB (so 17) = true := by kernel_rfl
theorem righto18 : rightB (so 18) = true := by kernel_rfl
theorem righto19 : rightB (so 19) = true := by kernel_rfl
theorem righto20 : rightB (so 20) = true := by kernel_rfl
theorem splitA : splitS nA dot = [nA] := by kernel_rfl
theorem splitB : splitS nB dot = [nB] := by kernel_rfl
theorem nAA : (nA.toList == nA.toList) = true := by kernel_rfl
theorem nAB : (nA.toList == nB.toList) = false := by kernel_rfl
theorem nBB : (nB.toList == nB.toList) = true := by kernel_rfl
theorem idxA (x y : VT) : idxF nA (.cons nA x (.cons nB y .nil)) 0 = ((0 : Nat) : Int) := by
  unfold idxF
  rw [if_pos nAA]
theorem idxB (x y : VT) : idxF nB (.cons nA x (.cons nB y .nil)) 0 = ((1 : Nat) : Int) := by
  unfold idxF
  rw [if_neg (by rw [nAB]; simp)]
  unfold idxF
  rw [if_pos nBB]
theorem leafA (x y : VT) : leafR pA (row2 x y) = (x, 0) := by
  have h : getV (row2 x y) [nA] = some x := by
    rw [getV_struct (j := 0) (s' := nA) (t := x) (idxA x y) (by rfl), getV]
  show ((getV (row2 x y) (splitS nA dot)).getD nullV, (0 : Int)) = (x, 0)
  rw [splitA, h]
  rfl
theorem leafB (x y : VT) : leafR pB (row2 x y) = (y, 0) := by
  have h : getV (row2 x y) [nB] = some y := by
    rw [getV_struct (j := 1) (s' := nB) (t := y) (idxB x y) (by rfl), getV]
  show ((getV (row2 x y) (splitS nB dot)).getD nullV, (0 : Int)) = (y, 0)
  rw [splitB, h]
  rfl
theorem treeo (k : Int) (x y : VT) (hk : k = 15 ∨ k = 16 ∨ k = 17 ∨ k = 18 ∨ k = 19 ∨ k = 20 ∨ k = 12 ∨ k = 13 ∨ k = 14) : treeE (row2 x y) (so k) = operR k [(x, 0), (y, 0)] := by
  have h1 : oneR pA (row2 x y) [] = (x, 0) := leafA x y
  have h2 : oneR pB (row2 x y) [] = (y, 0) := leafB x y
  have h3 : oneR (oP k) (row2 x y) [(x, 0), (y, 0)] = operR k [(x, 0), (y, 0)] := by
    unfold oneR
    rw [if_neg (by simp; omega), if_neg (by simp; omega), if_neg (by simp; omega), if_neg (by simp)]
  have t1 : pA.takes = 0 := by kernel_rfl
  have t2 : pB.takes = 0 := by kernel_rfl
  have t3 : (oP k).takes = 2 := by
    rcases hk with rfl | rfl | rfl | rfl | rfl | rfl | rfl | rfl | rfl <;> kernel_rfl
  have s1 : stepE (row2 x y) [] pA = [(x, 0)] := by unfold stepE; rw [t1]; simp [h1]
  have s2 : stepE (row2 x y) [(x, 0)] pB = [(x, 0), (y, 0)] := by unfold stepE; rw [t2]; simp [h2]
  have s3 : stepE (row2 x y) [(x, 0), (y, 0)] (oP k) = [operR k [(x, 0), (y, 0)]] := by unfold stepE; rw [t3]; simp [h3]
  unfold treeE stackE so
  simp [s1, s2, s3]
/-- what the law's six texts come to -/
def ordR (k : Int) (x y : VT) : Bool × Int := if (heldR k x y).2 = 0 then ((heldR k x y).1.bool, 0) else (false, 5)
theorem holdso (k : Int) (x y : VT) (hk : k = 15 ∨ k = 16 ∨ k = 17 ∨ k = 18 ∨ k = 19 ∨ k = 20) (hr : rightB (so k) = true) (hc : checkV (row2 x y) 0 = 0) (hx : x.kind ≠ 0) (hy : y.kind ≠ 0) :
    holdsE (so k) (row2 x y) = ordR k x y := by
  have he : evalE (so k) (row2 x y) = heldR k x y := by
    unfold evalE
    rw [hr, if_pos rfl, if_pos hc, treeo k x y (by omega)]
    unfold operR allR allR allR
    simp only []
    rw [if_neg (by simp), if_neg (by simp)]
    simp only []
    rw [if_neg (by omega), if_neg (by simp [hx, hy]), if_neg (by omega), if_neg (by omega), if_neg (by omega)]
    rfl
  unfold holdsE
  rw [if_neg (by simp [so]), he]
  unfold ordR heldR
  split
  · rfl
  · split
    · rfl
    · split
      · rfl
      · repeat' split
        all_goals first | rfl | simp_all [VT.kind]
theorem cmp_kinds (x y : VT) (h : x.kind ≠ y.kind) : cmpV x y ≠ 0 := by
  obtain ⟨k, b, n, s, l, f⟩ := x
  obtain ⟨k', b', n', s', l', f'⟩ := y
  have h' : k ≠ k' := h
  unfold cmpV
  rw [if_pos h']
  unfold cmpI
  split
  · decide
  · rw [if_pos (by omega)]; decide
end Go.Proofs.YtgjgllfeinjpnaaGreatDoor
/- codicillaw11.ExprOrder: the walk. -/
namespace Go.Proofs.YtgjgllfeinjpnaaGreatDoor
open Go.RowKit
set_option linter.unusedSimpArgs false
set_option linter.unusedVariables false
/-- the row { a: x, b: y } in two blocks -/
def RowAt2 (g : Nat) (x y : VT) (w : World) (a0 a1 a2 a3 a4 a5 b0 b1 b2 b3 b4 b5 : Value) : Prop := w.heap[g]? = some (.cells #[.string nA, a0, a1, a2, a3, a4, a5, .string nB, b0, b1, b2, b3, b4, b5] 29 (0, 0)) ∧
  w.heap[g + 1]? = some (.cells #[.int .u8 6, .bool false, .int .i64 0, .string ⟨#[]⟩, .slice none 0 0, .slice (some ⟨g, 0, none⟩) 2 2] 26 (0, 0)) ∧ RV w 0 w.heap.size x [a0, a1, a2, a3, a4, a5] ∧ RV w 0 w.heap.size y [b0, b1, b2, b3, b4, b5]
section
variable {g : Nat} {x y : VT} {w w' : World} {a0 a1 a2 a3 a4 a5 b0 b1 b2 b3 b4 b5 : Value}
theorem RowAt2.keep (h : RowAt2 g x y w a0 a1 a2 a3 a4 a5 b0 b1 b2 b3 b4 b5) (hb : Below w.heap.size w w') : RowAt2 g x y w' a0 a1 a2 a3 a4 a5 b0 b1 b2 b3 b4 b5 := ⟨blk hb h.1, blk hb h.2.1, h.2.2.1.grow hb, h.2.2.2.grow hb⟩
theorem cells_at {T : TypeId} {vs : Array Value} {j : Nat} {v : Value} (h : w.heap[g]? = some (.cells vs T (0, 0))) (hj : vs[j]? = some v) : w.cell? ⟨g, j, none⟩ = some v := by
  simp [World.cell?, h, hj]
theorem RowAt2.rv (h : RowAt2 g x y w a0 a1 a2 a3 a4 a5 b0 b1 b2 b3 b4 b5) : RV w 0 w.heap.size (row2 x y) [.int .u8 6, .bool false, .int .i64 0, .string ⟨#[]⟩, .slice none 0 0, .slice (some ⟨g, 0, none⟩) 2 2] := by
  obtain ⟨h1, h2, h3, h4⟩ := h
  have hl := lt_of_block h1
  refine ⟨_, _, _, _, rfl, by decide, by unfold I64; decide, by decide, by decide, by unfold LIM; simp [FL.len], by decide, by simp [FL.len], Or.inl rfl, Or.inr ⟨g, 0, rfl, by omega, hl, ⟨cells_at h1 rfl, by decide, _, _, _, _, _, _, cells_at h1 rfl, cells_at h1 rfl, cells_at h1 rfl, cells_at h1 rfl, cells_at h1 rfl, cells_at h1 rfl, h3⟩, ⟨cells_at h1 rfl, by decide, _, _, _, _, _, _, cells_at h1 rfl, cells_at h1 rfl, cells_at h1 rfl, cells_at h1 rfl, cells_at h1 rfl, cells_at h1 rfl, h4⟩, trivial⟩⟩
end
theorem BoolsAt.out {R : Nat → Bool} {q : Nat} {w : World} (h : w.heap[q]? = some (.cells #[.bool (R 0), .bool (R 1), .bool (R 2), .bool (R 3), .bool (R 4), .bool (R 5)] 32 (0, 0))) (j : Nat) (hj : j < 6) : w.cell? ⟨q, j, none⟩ = some (.bool (R j)) := by
  obtain rfl | rfl | rfl | rfl | rfl | rfl : j = 0 ∨ j = 1 ∨ j = 2 ∨ j = 3 ∨ j = 4 ∨ j = 5 := by omega
  all_goals exact cells_at h rfl
def txo : Nat → ByteArray
  | 0 => to0
  | 1 => to1
  | 2 => to2
  | 3 => to3
  | 4 => to4
  | _ => to5
theorem texts_at {q : Nat} {w : World} (h : w.heap[q]? = some (.cells #[.string to0, .string to1, .string to2, .string to3, .string to4, .string to5] 9 (0, 0))) (j : Nat) (hj : j < 6) : w.cell? ⟨q, j, none⟩ = some (.string (txo j)) := by
  obtain rfl | rfl | rfl | rfl | rfl | rfl : j = 0 ∨ j = 1 ∨ j = 2 ∨ j = 3 ∨ j = 4 ∨ j = 5 := by omega
  all_goals exact cells_at h rfl
/-- the results as far as text i -/
def ordB (x y : VT) (i j : Nat) : Bool := decide (j < i) && (ordR (15 + j) x y).1
theorem bools_set {x y : VT} {q i : Nat} {w : World} (hi : i < 6) (h : w.heap[q]? = some (.cells #[.bool (ordB x y i 0), .bool (ordB x y i 1), .bool (ordB x y i 2), .bool (ordB x y i 3), .bool (ordB x y i 4), .bool (ordB x y i 5)] 32 (0, 0))) :
    (w.setCell ⟨q, i, none⟩ (.bool (ordR (15 + i) x y).1)).heap[q]? = some (.cells #[.bool (ordB x y (i + 1) 0), .bool (ordB x y (i + 1) 1), .bool (ordB x y (i + 1) 2), .bool (ordB x y (i + 1) 3), .bool (ordB x y (i + 1) 4), .bool (ordB x y (i + 1) 5)] 32 (0, 0)) := by
  have e : ∀ j, j ≠ i → ordB x y (i + 1) j = ordB x y i j := fun j hj => by
    unfold ordB
    congr 1
    rw [decide_eq_decide]
    omega
  have e1 : ordB x y (i + 1) i = (ordR (15 + i) x y).1 := by unfold ordB; simp
  obtain rfl | rfl | rfl | rfl | rfl | rfl : i = 0 ∨ i = 1 ∨ i = 2 ∨ i = 3 ∨ i = 4 ∨ i = 5 := by omega
  · rw [← e1, e 1 (by decide), e 2 (by decide), e 3 (by decide), e 4 (by decide), e 5 (by decide)]; exact heap_setCell_same _ _ 0 _ _ _ h
  · rw [← e1, e 0 (by decide), e 2 (by decide), e 3 (by decide), e 4 (by decide), e 5 (by decide)]; exact heap_setCell_same _ _ 1 _ _ _ h
  · rw [← e1, e 0 (by decide), e 1 (by decide), e 3 (by decide), e 4 (by decide), e 5 (by decide)]; exact heap_setCell_same _ _ 2 _ _ _ h
  · rw [← e1, e 0 (by decide), e 1 (by decide), e 2 (by decide), e 4 (by decide), e 5 (by decide)]; exact heap_setCell_same _ _ 3 _ _ _ h
  · rw [← e1, e 0 (by decide), e 1 (by decide), e 2 (by decide), e 3 (by decide), e 5 (by decide)]; exact heap_setCell_same _ _ 4 _ _ _ h
  · rw [← e1, e 0 (by decide), e 1 (by decide), e 2 (by decide), e 3 (by decide), e 4 (by decide)]; exact heap_setCell_same _ _ 5 _ _ _ h
theorem ord_skip {x y : VT} {i j : Nat} (h : (ordR (15 + i) x y).1 = false) : ordB x y (i + 1) j = ordB x y i j := by
  by_cases hj : j = i
  · subst hj
    unfold ordB
    rw [h]
    simp
  · unfold ordB
    congr 1
    rw [decide_eq_decide]
    omega
section
variable (w : World) (g q : Nat) (x y : VT) (a0 a1 a2 a3 a4 a5 b0 b1 b2 b3 b4 b5 : Value)
def OrdAt (i : Nat) (wr : World) : Prop := Below w.heap.size w wr ∧ wr.heap[w.heap.size]? = some (.cells #[a0, a1, a2, a3, a4, a5] 26 (0, 0)) ∧ wr.heap[w.heap.size + 1]? = some (.cells #[b0, b1, b2, b3, b4, b5] 26 (0, 0)) ∧ RowAt2 g x y wr a0 a1 a2 a3 a4 a5 b0 b1 b2 b3 b4 b5 ∧
  wr.heap[q]? = some (.cells #[.bool (ordB x y i 0), .bool (ordB x y i 1), .bool (ordB x y i 2), .bool (ordB x y i 3), .bool (ordB x y i 4), .bool (ordB x y i 5)] 32 (0, 0)) ∧
  wr.heap[q + 1]? = some (.cells #[.string to0, .string to1, .string to2, .string to3, .string to4, .string to5] 9 (0, 0))
end
section
variable {w : World} {g q : Nat} {x y : VT} {a0 a1 a2 a3 a4 a5 b0 b1 b2 b3 b4 b5 : Value}
theorem OrdAt.keep {i : Nat} {wr wc : World} (h : OrdAt w g q x y a0 a1 a2 a3 a4 a5 b0 b1 b2 b3 b4 b5 i wr) (hb : Below wr.heap.size wr wc) : OrdAt w g q x y a0 a1 a2 a3 a4 a5 b0 b1 b2 b3 b4 b5 i wc :=
  ⟨below_call0 h.1 h.1.size hb, blk hb h.2.1, blk hb h.2.2.1, h.2.2.2.1.keep hb, blk hb h.2.2.2.2.1, blk hb h.2.2.2.2.2⟩
theorem OrdAt.skip {i : Nat} {wr : World} (h : OrdAt w g q x y a0 a1 a2 a3 a4 a5 b0 b1 b2 b3 b4 b5 i wr) (hs : (ordR (15 + i) x y).1 = false) : OrdAt w g q x y a0 a1 a2 a3 a4 a5 b0 b1 b2 b3 b4 b5 (i + 1) wr := by
  obtain ⟨h1, h2, h3, h4, h5, h6⟩ := h
  refine ⟨h1, h2, h3, h4, ?_, h6⟩
  rw [ord_skip hs, ord_skip hs, ord_skip hs, ord_skip hs, ord_skip hs, ord_skip hs]
  exact h5
theorem OrdAt.store {i : Nat} {wr : World} {v : Bool} (h : OrdAt w g q x y a0 a1 a2 a3 a4 a5 b0 b1 b2 b3 b4 b5 i wr) (hi : i < 6) (hv : (ordR (15 + i) x y).1 = v) (hq : w.heap.size + 1 < g ∧ g + 1 < q) (hrx : RV w 0 w.heap.size x [a0, a1, a2, a3, a4, a5]) (hry : RV w 0 w.heap.size y [b0, b1, b2, b3, b4, b5]) : OrdAt w g q x y a0 a1 a2 a3 a4 a5 b0 b1 b2 b3 b4 b5 (i + 1) (wr.setCell ⟨q, i, none⟩ (.bool v)) := by
  obtain ⟨h1, h2, h3, ⟨h4, h5, h6, h7⟩, h8, h9⟩ := h
  subst hv
  have hb : Below w.heap.size w (wr.setCell ⟨q, i, none⟩ (.bool (ordR (15 + i) x y).1)) := h1.setCell (p := ⟨q, i, none⟩) (by show _ ≤ q; omega) _
  exact ⟨hb, blk_set (by omega) h2, blk_set (by omega) h3, ⟨blk_set (by omega) h4, blk_set (by omega) h5, hrx.grow hb, hry.grow hb⟩, bools_set hi h8, blk_set (by omega) h9⟩
end
theorem txo_cond {i : Nat} (hi : i < 6) : condP (txo i) = some (so (15 + i)) := by
  obtain rfl | rfl | rfl | rfl | rfl | rfl : i = 0 ∨ i = 1 ∨ i = 2 ∨ i = 3 ∨ i = 4 ∨ i = 5 := by omega
  · exact cono0
  · exact cono1
  · exact cono2
  · exact cono3
  · exact cono4
  · exact cono5
theorem txo_size (i : Nat) : (txo i).size ≤ 1000 := by
  unfold txo
  split <;> decide
theorem so_good {i : Nat} (hi : i < 6) : goodB (so (15 + i)) = true ∧ rightB (so (15 + i)) = true := by
  obtain rfl | rfl | rfl | rfl | rfl | rfl : i = 0 ∨ i = 1 ∨ i = 2 ∨ i = 3 ∨ i = 4 ∨ i = 5 := by omega
  · exact ⟨goodo15, righto15⟩
  · exact ⟨goodo16, righto16⟩
  · exact ⟨goodo17, righto17⟩
  · exact ⟨goodo18, righto18⟩
  · exact ⟨goodo19, righto19⟩
  · exact ⟨goodo20, righto20⟩
theorem ord_no {i : Nat} {x y : VT} (h1 : 1 < i) (hD : x.kind ≠ y.kind ∨ 5 ≤ x.kind) : ordR (15 + i) x y = (false, 5) := by
  have : heldR (15 + i) x y = (nullV, 5) := by
    unfold heldR
    rw [if_neg (by omega), if_neg (by omega), if_pos hD]
  unfold ordR
  rw [this]
  rfl
theorem ord_yes {i : Nat} {x y : VT} (h : i ≤ 1 ∨ ¬ (x.kind ≠ y.kind ∨ 5 ≤ x.kind)) : (ordR (15 + i) x y).2 = 0 := by
  have : (heldR (15 + i) x y).2 = 0 := by
    unfold heldR
    split
    · rfl
    · split
      · rfl
      · rw [if_neg (h.elim (fun h' => by omega) id)]
        repeat' split
        all_goals rfl
  unfold ordR
  rw [if_pos this]
theorem ord_e0 (x y : VT) : ordB x y 6 0 = decide (cmpV x y = 0) := by
  have h : heldR (15 + ((0 : Nat) : Int)) x y = (truthV (decide (cmpV x y = 0)), 0) := by unfold heldR; rw [if_pos (by decide)]
  unfold ordB ordR
  rw [h]
  simp [VT.bool]
theorem ord_e1 (x y : VT) : ordB x y 6 1 = decide (cmpV x y ≠ 0) := by
  have h : heldR (15 + ((1 : Nat) : Int)) x y = (truthV (decide (cmpV x y ≠ 0)), 0) := by unfold heldR; rw [if_neg (by decide), if_pos (by decide)]
  unfold ordB ordR
  rw [h]
  simp [VT.bool]
theorem ord_e2 (x y : VT) (hD : ¬ (x.kind ≠ y.kind ∨ 5 ≤ x.kind)) : ordB x y 6 2 = decide (cmpV x y < 0) := by
  have h : heldR (15 + ((2 : Nat) : Int)) x y = (truthV (decide (cmpV x y < 0)), 0) := by unfold heldR; rw [if_neg (by decide), if_neg (by decide), if_neg hD, if_pos (by decide)]
  unfold ordB ordR
  rw [h]
  simp [VT.bool]
theorem ord_e3 (x y : VT) (hD : ¬ (x.kind ≠ y.kind ∨ 5 ≤ x.kind)) : ordB x y 6 3 = decide (cmpV x y < 1) := by
  have h : heldR (15 + ((3 : Nat) : Int)) x y = (truthV (decide (cmpV x y < 1)), 0) := by unfold heldR; rw [if_neg (by decide), if_neg (by decide), if_neg hD, if_neg (by decide), if_pos (by decide)]
  unfold ordB ordR
  rw [h]
  simp [VT.bool]
theorem ord_e4 (x y : VT) (hD : ¬ (x.kind ≠ y.kind ∨ 5 ≤ x.kind)) : ordB x y 6 4 = decide (0 < cmpV x y) := by
  have h : heldR (15 + ((4 : Nat) : Int)) x y = (truthV (decide (0 < cmpV x y)), 0) := by unfold heldR; rw [if_neg (by decide), if_neg (by decide), if_neg hD, if_neg (by decide), if_neg (by decide), if_pos (by decide)]
  unfold ordB ordR
  rw [h]
  simp [VT.bool]
theorem ord_e5 (x y : VT) (hD : ¬ (x.kind ≠ y.kind ∨ 5 ≤ x.kind)) : ordB x y 6 5 = decide (-1 < cmpV x y) := by
  have h : heldR (15 + ((5 : Nat) : Int)) x y = (truthV (decide (-1 < cmpV x y)), 0) := by unfold heldR; rw [if_neg (by decide), if_neg (by decide), if_neg hD, if_neg (by decide), if_neg (by decide), if_neg (by decide)]
  unfold ordB ordR
  rw [h]
  simp [VT.bool]
set_option maxHeartbeats 4000000
set_option maxRecDepth 100000
theorem order_calls (x y : VT) (a0 a1 a2 a3 a4 a5 b0 b1 b2 b3 b4 b5 : Value) (w : World) (hL : Laid w) (hx : RV w 0 w.heap.size x [a0, a1, a2, a3, a4, a5]) (hy : RV w 0 w.heap.size y [b0, b1, b2, b3, b4, b5]) :
    Calls Tryz.prog 3 #[.agg #[a0, a1, a2, a3, a4, a5], .agg #[b0, b1, b2, b3, b4, b5]] w fun e w' => e = .returned (.bool true) ∧ Below w.heap.size w w' := by
  have HLD := Lib.hid hL
  have HRX := Lib.hid hx
  have HRY := Lib.hid hy
  obtain ⟨k, b, n, s, l, f, p1, c1, p2, c2, rfl, er, _⟩ := RV.mk_parts hx
  simp only [List.cons.injEq, and_true] at er
  obtain ⟨rfl, rfl, rfl, rfl, rfl, rfl⟩ := er
  obtain ⟨k', b', n', s', l', f', q1, d1, q2, d2, rfl, er, _⟩ := RV.mk_parts hy
  simp only [List.cons.injEq, and_true] at er
  obtain ⟨rfl, rfl, rfl, rfl, rfl, rfl⟩ := er
  clear hL hx hy
  go_enter Tryz.func3, Tryz.ntmps3
  go_upto_region 1 with (fail)
  have hB := two_allocs (w := w) (.cells #[.int .u8 k, .bool b, .int .i64 n, .string s, .slice p1 l.len c1, .slice p2 f.len c2] 26) (.cells #[.int .u8 k', .bool b', .int .i64 n', .string s', .slice q1 l'.len d1, .slice q2 f'.len d2] 26)
  have hX : ((w.alloc (.cells #[.int .u8 k, .bool b, .int .i64 n, .string s, .slice p1 l.len c1, .slice p2 f.len c2] 26)).alloc (.cells #[.int .u8 k', .bool b', .int .i64 n', .string s', .slice q1 l'.len d1, .slice q2 f'.len d2] 26)).heap[w.heap.size]? = _ := blk_alloc (heap_last _ _)
  have hY : ((w.alloc (.cells #[.int .u8 k, .bool b, .int .i64 n, .string s, .slice p1 l.len c1, .slice p2 f.len c2] 26)).alloc (.cells #[.int .u8 k', .bool b', .int .i64 n', .string s', .slice q1 l'.len d1, .slice q2 f'.len d2] 26)).heap[w.heap.size + 1]? = some (.cells #[.int .u8 k', .bool b', .int .i64 n', .string s', .slice q1 l'.len d1, .slice q2 f'.len d2] 26 (0, 0)) := by
    simpa using heap_last (w.alloc (.cells #[.int .u8 k, .bool b, .int .i64 n, .string s, .slice p1 l.len c1, .slice p2 f.len c2] 26)) (.cells #[.int .u8 k', .bool b', .int .i64 n', .string s', .slice q1 l'.len d1, .slice q2 f'.len d2] 26)
  generalize (w.alloc (.cells #[.int .u8 k, .bool b, .int .i64 n, .string s, .slice p1 l.len c1, .slice p2 f.len c2] 26)).alloc (.cells #[.int .u8 k', .bool b', .int .i64 n', .string s', .slice q1 l'.len d1, .slice q2 f'.len d2] 26) = W0 at *
  have HB0 := Lib.hid hB
  have HX0 := Lib.hid hX
  have HY0 := Lib.hid hY
  have HLV := Lib.hid (lives_calls W0 (HLD.out.below hB))
  clear hB hX hY
  go_upto_region 3 with (go_at_call 9; (with_reducible refine (HLV.out).mono ?_); rintro e w1 ⟨rfl, hb1⟩; have HB1 := Lib.hid (below_call0 HB0.out HB0.out.size hb1); have HX1 := Lib.hid (blk hb1 HX0.out); have HY1 := Lib.hid (blk hb1 HY0.out); clear hb1)
  obtain ⟨x0, x1, x2, x3, x4, x5, x6⟩ := cells6 HX1.out
  obtain ⟨y0, y1, y2, y3, y4, y5, y6⟩ := cells6 HY1.out
  clear HX0 HY0 HB0 HLV
  go_upto_region 4 with (fail)
  have hb2 := two_allocs (w := w1) (.cells #[.string nA, .int .u8 k, .bool b, .int .i64 n, .string s, .slice p1 l.len c1, .slice p2 f.len c2, .string nB, .int .u8 k', .bool b', .int .i64 n', .string s', .slice q1 l'.len d1, .slice q2 f'.len d2] 29) (.cells #[.int .u8 6, .bool false, .int .i64 0, .string ⟨#[]⟩, .slice none 0 0, .slice (some ⟨w1.heap.size, 0, none⟩) 2 2] 26)
  have hr2 : RowAt2 w1.heap.size (.mk k b n s l f) (.mk k' b' n' s' l' f') ((w1.alloc (.cells #[.string nA, .int .u8 k, .bool b, .int .i64 n, .string s, .slice p1 l.len c1, .slice p2 f.len c2, .string nB, .int .u8 k', .bool b', .int .i64 n', .string s', .slice q1 l'.len d1, .slice q2 f'.len d2] 29)).alloc (.cells #[.int .u8 6, .bool false, .int .i64 0, .string ⟨#[]⟩, .slice none 0 0, .slice (some ⟨w1.heap.size, 0, none⟩) 2 2] 26)) (.int .u8 k) (.bool b) (.int .i64 n) (.string s) (.slice p1 l.len c1) (.slice p2 f.len c2) (.int .u8 k') (.bool b') (.int .i64 n') (.string s') (.slice q1 l'.len d1) (.slice q2 f'.len d2) := by
    have hbw := below_call0 HB1.out HB1.out.size hb2
    exact ⟨blk_alloc (heap_last _ _), by simpa using heap_last (w1.alloc (.cells #[.string nA, .int .u8 k, .bool b, .int .i64 n, .string s, .slice p1 l.len c1, .slice p2 f.len c2, .string nB, .int .u8 k', .bool b', .int .i64 n', .string s', .slice q1 l'.len d1, .slice q2 f'.len d2] 29)) (.cells #[.int .u8 6, .bool false, .int .i64 0, .string ⟨#[]⟩, .slice none 0 0, .slice (some ⟨w1.heap.size, 0, none⟩) 2 2] 26), HRX.out.grow hbw, HRY.out.grow hbw⟩
  have HQ1 : Hid (w.heap.size + 1 < w1.heap.size) := Lib.hid (lt_of_block HY1.out)
  generalize (w1.alloc (.cells #[.string nA, .int .u8 k, .bool b, .int .i64 n, .string s, .slice p1 l.len c1, .slice p2 f.len c2, .string nB, .int .u8 k', .bool b', .int .i64 n', .string s', .slice q1 l'.len d1, .slice q2 f'.len d2] 29)).alloc (.cells #[.int .u8 6, .bool false, .int .i64 0, .string ⟨#[]⟩, .slice none 0 0, .slice (some ⟨w1.heap.size, 0, none⟩) 2 2] 26) = W at *
  have HB2 := Lib.hid (below_call0 HB1.out HB1.out.size hb2)
  have HX2 := Lib.hid (blk hb2 HX1.out)
  have HY2 := Lib.hid (blk hb2 HY1.out)
  have HR2 := Lib.hid hr2
  have HCK := Lib.hid (fun (w' : World) (hb : Below W.heap.size W w') => Check_any _ w' _ 0 w'.heap.size (hr2.keep hb).rv (Nat.le_refl _) (HLD.out.below (below_call0 HB2.out HB2.out.size hb)).tabs)
  clear hb2 hr2 HX1 HY1 HB1 x0 x1 x2 x3 x4 x5 x6 y0 y1 y2 y3 y4 y5 y6
  obtain ⟨x0, x1, x2, x3, x4, x5, x6⟩ := cells6 HX2.out
  obtain ⟨y0, y1, y2, y3, y4, y5, y6⟩ := cells6 HY2.out
  obtain ⟨z0, z1, z2, z3, z4, z5, z6⟩ := cells6 HR2.out.2.1
  obtain ⟨Z, hZZ⟩ : ∃ z, checkV (row2 (.mk k b n s l f) (.mk k' b' n' s' l' f')) 0 = z := ⟨_, rfl⟩
  rw [hZZ] at HCK
  have HZZ := Lib.hid hZZ
  clear hZZ
  by_cases hz : Z = 0
  · subst hz
    by_cases hk : k = 0
    · have hk0 : (k == 0) = true := by simpa using hk
      clear hk
      go_wp2_with (go_at_call 10; refine (HCK.out _ (Below.refl _ _)).mono ?_; rintro e w3 ⟨rfl, hb3⟩; have HB3 := Lib.hid (below_call0 HB2.out HB2.out.size hb3); have hx3 := blk hb3 HX2.out; have hy3 := blk hb3 HY2.out; clear hb3 x0 x1 x2 x3 x4 x5 x6 y0 y1 y2 y3 y4 y5 y6; obtain ⟨x0, x1, x2, x3, x4, x5, x6⟩ := cells6 hx3; obtain ⟨y0, y1, y2, y3, y4, y5, y6⟩ := cells6 hy3; clear hx3 hy3)
      go_ret
      exact ⟨rfl, HB3.out⟩
    · have hk0 : (k == 0) = false := by simpa using hk
      by_cases hk' : k' = 0
      · have hk0' : (k' == 0) = true := by simpa using hk'
        clear hk hk'
        go_wp2_with (go_at_call 10; refine (HCK.out _ (Below.refl _ _)).mono ?_; rintro e w3 ⟨rfl, hb3⟩; have HB3 := Lib.hid (below_call0 HB2.out HB2.out.size hb3); have hx3 := blk hb3 HX2.out; have hy3 := blk hb3 HY2.out; clear hb3 x0 x1 x2 x3 x4 x5 x6 y0 y1 y2 y3 y4 y5 y6; obtain ⟨x0, x1, x2, x3, x4, x5, x6⟩ := cells6 hx3; obtain ⟨y0, y1, y2, y3, y4, y5, y6⟩ := cells6 hy3; clear hx3 hy3)
        go_ret
        exact ⟨rfl, HB3.out⟩
      · have hk0' : (k' == 0) = false := by simpa using hk'
        go_upto_region 6 with (go_at_call 10; refine (HCK.out _ (Below.refl _ _)).mono ?_; rintro e w3 ⟨rfl, hb3⟩; have HB3 := Lib.hid (below_call0 HB2.out HB2.out.size hb3); have HX3 := Lib.hid (blk hb3 HX2.out); have HY3 := Lib.hid (blk hb3 HY2.out); have HR3 := Lib.hid (HR2.out.keep hb3); clear hb3 x0 x1 x2 x3 x4 x5 x6 y0 y1 y2 y3 y4 y5 y6 z0 z1 z2 z3 z4 z5 z6; obtain ⟨x0, x1, x2, x3, x4, x5, x6⟩ := cells6 HX3.out; obtain ⟨y0, y1, y2, y3, y4, y5, y6⟩ := cells6 HY3.out; obtain ⟨z0, z1, z2, z3, z4, z5, z6⟩ := cells6 HR3.out.2.1)
        clear HX2 HY2 HR2 HB2 HCK
        have hb4 := two_allocs (w := w3) (.cells #[.bool false, .bool false, .bool false, .bool false, .bool false, .bool false] 32) (.cells #[.string to0, .string to1, .string to2, .string to3, .string to4, .string to5] 9)
        have HA0 : Hid (OrdAt w w1.heap.size w3.heap.size (.mk k b n s l f) (.mk k' b' n' s' l' f') (.int .u8 k) (.bool b) (.int .i64 n) (.string s) (.slice p1 l.len c1) (.slice p2 f.len c2) (.int .u8 k') (.bool b') (.int .i64 n') (.string s') (.slice q1 l'.len d1) (.slice q2 f'.len d2) 0 ((w3.alloc (.cells #[.bool false, .bool false, .bool false, .bool false, .bool false, .bool false] 32)).alloc (.cells #[.string to0, .string to1, .string to2, .string to3, .string to4, .string to5] 9))) := Lib.hid ⟨below_call0 HB3.out HB3.out.size hb4, blk hb4 HX3.out, blk hb4 HY3.out, HR3.out.keep hb4, blk_alloc (heap_last _ _), by simpa using heap_last (w3.alloc (.cells #[.bool false, .bool false, .bool false, .bool false, .bool false, .bool false] 32)) (.cells #[.string to0, .string to1, .string to2, .string to3, .string to4, .string to5] 9)⟩
        have HQ : Hid (w.heap.size + 1 < w1.heap.size ∧ w1.heap.size + 1 < w3.heap.size) := Lib.hid ⟨HQ1.out, lt_of_block HR3.out.2.1⟩
        have HK : Hid (VT.kind (.mk k b n s l f) ≠ 0 ∧ VT.kind (.mk k' b' n' s' l' f') ≠ 0) := Lib.hid ⟨hk, hk'⟩
        clear hb4 hk hk' HX3 HY3 HR3 HB3 HQ1 hk0 hk0' x0 x1 x2 x3 x4 x5 x6 y0 y1 y2 y3 y4 y5 y6 z0 z1 z2 z3 z4 z5 z6
        go_wp2_with fail
        go_loopw [34] (fun s34 wr => ∃ i : Nat, s34 = .int .i64 i ∧ i ≤ 6 ∧ OrdAt w w1.heap.size w3.heap.size (.mk k b n s l f) (.mk k' b' n' s' l' f') (.int .u8 k) (.bool b) (.int .i64 n) (.string s) (.slice p1 l.len c1) (.slice p2 f.len c2) (.int .u8 k') (.bool b') (.int .i64 n') (.string s') (.slice q1 l'.len d1) (.slice q2 f'.len d2) i wr) (fun s34 _ => 6 - (intOf s34).toNat)
        case atStart => exact ⟨0, rfl, by decide, HA0.out⟩
        case round =>
          obtain ⟨i, rfl, hi, hat⟩ := hrel
          have HAT := Lib.hid hat
          clear HA0
          obtain ⟨hB, hX, hY, hR, hBo, hTo⟩ := hat
          obtain ⟨x0, x1, x2, x3, x4, x5, x6⟩ := cells6 hX
          obtain ⟨y0, y1, y2, y3, y4, y5, y6⟩ := cells6 hY
          obtain ⟨z0, z1, z2, z3, z4, z5, z6⟩ := cells6 hR.2.1
          by_cases hlt : i < 6
          · have htx := texts_at hTo i hlt
            clear hB hX hY hR hBo hTo
            go_upto_region 10 with (fail)
            have HOF := Lib.hid (fun (w' : World) (hb : Below wr.heap.size wr w') => of_calls (txo i) (so (15 + i)) w' (HLD.out.below (HAT.out.keep hb).1) (txo_size i) (txo_cond hlt) (goodB_all (so_good hlt).1).2.2.2)
            have hev0 := fun (w' : World) (A : Option Addr) (c : Nat) (hb : Below wr.heap.size wr w') (hr : RowS w' (so (15 + i)) A) => holds_calls (so (15 + i)) A c (row2 (.mk k b n s l f) (.mk k' b' n' s' l' f')) _ _ _ _ _ _ w' (goodB_all (so_good hlt).1).2.2.1 (goodB_all (so_good hlt).1).1 (goodB_all (so_good hlt).1).2.1 (HLD.out.below (HAT.out.keep hb).1) hr (HAT.out.keep hb).2.2.2.1.rv
            rw [holdso (15 + i) (.mk k b n s l f) (.mk k' b' n' s' l' f') (by omega) (so_good hlt).2 HZZ.out HK.out.1 HK.out.2] at hev0
            obtain ⟨⟨rb, re⟩, hre⟩ : ∃ r, ordR (15 + i) (.mk k b n s l f) (.mk k' b' n' s' l' f') = r := ⟨_, rfl⟩
            rw [hre] at hev0
            have HEV := Lib.hid hev0
            have HRE := Lib.hid hre
            clear hev0 hre
            obtain ⟨ln, hln⟩ : ∃ x, (so (15 + i)).length = x := ⟨_, rfl⟩
            rw [hln] at HOF HEV
            generalize so (15 + i) = sts at HOF HEV
            clear hln
            go_cut [9, 10] (fun s9 s10 wx => s9 = .bool rb ∧ s10 = .int .i64 re ∧ Below wr.heap.size wr wx)
            case first =>
              go_region_with (first | (go_at_call 12; (with_reducible refine (HOF.out _ (Below.drew (Below.refl _ _))).mono ?_); rintro e w5 ⟨A5, c5, rfl, hr5, hc5, hb5⟩; have HB5 := Lib.hid (below_call0 (Below.drew (Below.refl wr.heap.size wr)) (Nat.le_refl _) hb5); have HR5 := Lib.hid hr5; clear hr5 hb5 z0 z1 z2 z3 z4 z5 z6; obtain ⟨z0, z1, z2, z3, z4, z5, z6⟩ := cells6 (HAT.out.keep HB5.out).2.2.2.1.2.1) | (go_at_call 11; (with_reducible refine (HEV.out w5 A5 c5 HB5.out HR5.out).mono ?_); rintro e w8 ⟨rfl, hb8⟩; have HB8 := Lib.hid hb8; clear hb8))
              all_goals (go_wp2_with fail)
              all_goals go_meet
              all_goals exact ⟨rfl, rfl, below_call0 HB5.out HB5.out.size HB8.out⟩
            case rest =>
              obtain ⟨rfl, rfl, hcd⟩ := hcut
              have hatc := HAT.out.keep hcd
              clear HAT HOF HEV x0 x1 x2 x3 x4 x5 x6 y0 y1 y2 y3 y4 y5 y6 z0 z1 z2 z3 z4 z5 z6 hcd htx
              have HAT := Lib.hid hatc
              obtain ⟨hB, hX, hY, hR, hBo, hTo⟩ := hatc
              obtain ⟨x0, x1, x2, x3, x4, x5, x6⟩ := cells6 hX
              obtain ⟨y0, y1, y2, y3, y4, y5, y6⟩ := cells6 hY
              obtain ⟨u0, u1, u2, u3, u4, u5, u6⟩ := cells6 hBo
              have ui := BoolsAt.out (R := ordB (.mk k b n s l f) (.mk k' b' n' s' l' f') i) hBo i hlt
              clear hB hX hY hR hBo hTo
              by_cases hD : 1 < i ∧ (k ≠ k' ∨ 5 ≤ k)
              · have hno := ord_no (x := (.mk k b n s l f)) (y := (.mk k' b' n' s' l' f')) hD.1 hD.2
                rw [HRE.out] at hno
                cases hno
                have HNX := Lib.hid (HAT.out.skip (by rw [HRE.out]))
                have hi1 : decide ((1 : Int) < (i : Int)) = true := by simp; omega
                by_cases hkk : k = k'
                · have hk1 : (k != k') = false := by simp [hkk]
                  have hk5 : decide (5 ≤ k) = true := by have := hD.2; simp; omega
                  clear hD hkk HRE HAT
                  go_wp2_with fail
                  go_roundw
                  case rel => exact ⟨i + 1, by go_num, by omega, HNX.out⟩
                  case measure => simp [intOf]; omega
                · have hk1 : (k != k') = true := by simpa using hkk
                  clear hD hkk HRE HAT
                  go_wp2_with fail
                  go_roundw
                  case rel => exact ⟨i + 1, by go_num, by omega, HNX.out⟩
                  case measure => simp [intOf]; omega
              · have hye : re = 0 := by
                  have := ord_yes (i := i) (x := (.mk k b n s l f)) (y := (.mk k' b' n' s' l' f')) (by
                    by_cases h1 : i ≤ 1
                    · exact Or.inl h1
                    · exact Or.inr (fun h => hD ⟨by omega, h⟩))
                  rw [HRE.out] at this
                  exact this
                subst hye
                have HNX := Lib.hid (HAT.out.store (v := rb) hlt (by rw [HRE.out]) HQ.out HRX.out HRY.out)
                clear HRE HAT u0 u1 u2 u3 u4 u5
                by_cases h1 : 1 < i
                · have hkk : k = k' := Classical.byContradiction fun h => hD ⟨h1, Or.inl h⟩
                  have hk4 : ¬ 5 ≤ k := fun h => hD ⟨h1, Or.inr h⟩
                  have hi1 : decide ((1 : Int) < (i : Int)) = true := by simp; omega
                  have hk1 : (k != k') = false := by simp [hkk]
                  have hk5 : decide (5 ≤ k) = false := by simpa using hk4
                  clear hD hkk hk4 h1
                  go_wp2_with fail
                  go_roundw
                  case rel => exact ⟨i + 1, by go_num, by omega, HNX.out⟩
                  case measure => simp [intOf]; omega
                · have hi1 : decide ((1 : Int) < (i : Int)) = false := by simp; omega
                  clear hD h1
                  go_wp2_with fail
                  go_roundw
                  case rel => exact ⟨i + 1, by go_num, by omega, HNX.out⟩
                  case measure => simp [intOf]; omega
          · obtain rfl : i = 6 := by omega
            have HBE := Lib.hid hB
            obtain ⟨c, hc⟩ : ∃ c, cmpV (.mk k b n s l f) (.mk k' b' n' s' l' f') = c := ⟨_, rfl⟩
            have e0 := ord_e0 (.mk k b n s l f) (.mk k' b' n' s' l' f')
            have e1 := ord_e1 (.mk k b n s l f) (.mk k' b' n' s' l' f')
            rw [hc] at e0 e1
            clear hB hX hY hR hTo HAT
            by_cases hD : k ≠ k' ∨ 5 ≤ k
            · by_cases hkk : k = k'
              · have hk1 : (k != k') = false := by simp [hkk]
                have hk2 : (k == k') = true := by simp [hkk]
                have hk5 : decide (5 ≤ k) = true := by simp; omega
                by_cases h0 : c = 0
                · rw [e0, e1, decide_eq_true h0, decide_eq_false (not_not_intro h0)] at hBo
                  obtain ⟨u0, u1, u2, u3, u4, u5, u6⟩ := cells6 hBo
                  clear hBo e0 e1 hc hD hkk h0
                  go_wp2_with fail
                  go_ret
                  exact ⟨rfl, HBE.out⟩
                · rw [e0, e1, decide_eq_false h0, decide_eq_true h0] at hBo
                  obtain ⟨u0, u1, u2, u3, u4, u5, u6⟩ := cells6 hBo
                  clear hBo e0 e1 hc hD hkk h0
                  go_wp2_with fail
                  go_ret
                  exact ⟨rfl, HBE.out⟩
              · have hk1 : (k != k') = true := by simpa using hkk
                have hk2 : (k == k') = false := by simpa using hkk
                have h0 : c ≠ 0 := hc ▸ cmp_kinds (.mk k b n s l f) (.mk k' b' n' s' l' f') hkk
                rw [e0, e1, decide_eq_false h0, decide_eq_true h0] at hBo
                obtain ⟨u0, u1, u2, u3, u4, u5, u6⟩ := cells6 hBo
                clear hBo e0 e1 hc hD hkk h0
                go_wp2_with fail
                go_ret
                exact ⟨rfl, HBE.out⟩
            · have hkk : k = k' := Classical.byContradiction fun h => hD (Or.inl h)
              have hk1 : (k != k') = false := by simp [hkk]
              have hk5 : decide (5 ≤ k) = false := by simpa using fun h => hD (Or.inr h)
              have e2 := ord_e2 (.mk k b n s l f) (.mk k' b' n' s' l' f') hD
              have e3 := ord_e3 (.mk k b n s l f) (.mk k' b' n' s' l' f') hD
              have e4 := ord_e4 (.mk k b n s l f) (.mk k' b' n' s' l' f') hD
              have e5 := ord_e5 (.mk k b n s l f) (.mk k' b' n' s' l' f') hD
              rw [hc] at e2 e3 e4 e5
              rw [e0, e1, e2, e3, e4, e5] at hBo
              by_cases h0 : c = 0
              · subst h0
                simp only [decide_eq_true_eq, ne_eq, not_true_eq_false, decide_false, Int.lt_irrefl, decide_true, show (0 : Int) < 1 from by decide, show (-1 : Int) < 0 from by decide] at hBo
                obtain ⟨u0, u1, u2, u3, u4, u5, u6⟩ := cells6 hBo
                clear hBo e0 e1 e2 e3 e4 e5 hc hD hkk
                go_wp2_with fail
                go_ret
                exact ⟨rfl, HBE.out⟩
              · by_cases h1 : c < 0
                · rw [decide_eq_false h0, decide_eq_true (show c ≠ 0 from h0), decide_eq_true h1, decide_eq_true (show c < 1 by omega), decide_eq_false (show ¬ 0 < c by omega), decide_eq_false (show ¬ -1 < c by omega)] at hBo
                  obtain ⟨u0, u1, u2, u3, u4, u5, u6⟩ := cells6 hBo
                  clear hBo e0 e1 e2 e3 e4 e5 hc hD hkk h0 h1
                  go_wp2_with fail
                  go_ret
                  exact ⟨rfl, HBE.out⟩
                · rw [decide_eq_false h0, decide_eq_true (show c ≠ 0 from h0), decide_eq_false h1, decide_eq_false (show ¬ c < 1 by omega), decide_eq_true (show 0 < c by omega), decide_eq_true (show -1 < c by omega)] at hBo
                  obtain ⟨u0, u1, u2, u3, u4, u5, u6⟩ := cells6 hBo
                  clear hBo e0 e1 e2 e3 e4 e5 hc hD hkk h0 h1
                  go_wp2_with fail
                  go_ret
                  exact ⟨rfl, HBE.out⟩
  · have hz0 : (Z != 0) = true := by simpa using hz
    have hz1 : (Z == 0) = false := by simpa using hz
    clear hz
    go_wp2_with (go_at_call 10; refine (HCK.out _ (Below.refl _ _)).mono ?_; rintro e w3 ⟨rfl, hb3⟩; have HB3 := Lib.hid (below_call0 HB2.out HB2.out.size hb3); clear hb3)
    go_ret
    exact ⟨rfl, HB3.out⟩
end Go.Proofs.YtgjgllfeinjpnaaGreatDoor
