import Derived.Test.YtgjgllfeinjpnaaGreatDoorKEm
import Derived.KernelRfl
/- What the laws' own conditions come to: plain facts by the kernel. -/
namespace Go.Proofs.YtgjgllfeinjpnaaGreatDoor
open Go.RowKit
set_option linter.unusedSimpArgs false
set_option linter.unusedVariables false
abbrev nA : ByteArray := ⟨#[97]⟩
abbrev nB : ByteArray := ⟨#[98]⟩
/-- the row { a: 1 } -/
abbrev row1 : VT := structV (.cons nA (intV 1) .nil)
/-- the laws' texts: a + 1 = 2; b > 1; a < 'x'; a = 2 AND a < 'x' -/
def tx1 : ByteArray := ⟨#[97, 32, 43, 32, 49, 32, 61, 32, 50]⟩
def tx2 : ByteArray := ⟨#[98, 32, 62, 32, 49]⟩
def tx3 : ByteArray := ⟨#[97, 32, 60, 32, 39, 120, 39]⟩
def tx4 : ByteArray := ⟨#[97, 32, 61, 32, 50, 32, 65, 78, 68, 32, 97, 32, 60, 32, 39, 120, 39]⟩
abbrev pA : ST := ⟨6, nA, 0⟩
abbrev pB : ST := ⟨6, nB, 0⟩
abbrev oP (k : Int) : ST := ⟨k, ⟨#[]⟩, 0⟩
abbrev nI (n : Int) : ST := ⟨4, ⟨#[]⟩, n⟩
def st1 : List ST := [pA, nI 1, oP 12, nI 2, oP 15]
def st2 : List ST := [pB, nI 1, oP 19]
def st3 : List ST := [pA, ⟨5, ⟨#[120]⟩, 0⟩, oP 17]
def st4 : List ST := [pA, nI 2, oP 15, pA, ⟨5, ⟨#[120]⟩, 0⟩, oP 17, oP 21]
set_option maxRecDepth 100000
theorem cond1 : condP tx1 = some st1 := by kernel_rfl
theorem cond2 : condP tx2 = some st2 := by kernel_rfl
theorem cond3 : condP tx3 = some st3 := by kernel_rfl
theorem cond4 : condP tx4 = some st4 := by kernel_rfl
theorem eval1 : evalE st1 row1 = (truthV true, 0) := by kernel_rfl
theorem eval2 : evalE st2 row1 = (nullV, 0) := by kernel_rfl
theorem eval3 : evalE st3 row1 = (nullV, 5) := by kernel_rfl
theorem eval4 : holdsE st4 row1 = (false, 0) := by kernel_rfl
/-- what the laws ask of the steps, by a Bool -/
def goodB (l : List ST) : Bool := l.all (fun s => decide (-9223372036854775808 ≤ s.n) && decide (s.n ≤ 9223372036854775807) && decide (s.t.size ≤ 1024) && decide (0 ≤ s.k) && !(s.k == 7) && !(s.k == 8)) && decide (l.length ≤ 128)
theorem goodB_all {l : List ST} (h : goodB l = true) : (∀ s ∈ l, StOk s) ∧ Plain l ∧ l.length ≤ LIM ∧ (l.all fun x => decide (x.t.size ≤ 1024)) = true := by
  unfold goodB at h
  simp only [Bool.and_eq_true, List.all_eq_true, decide_eq_true_eq, Bool.not_eq_true', beq_eq_false_iff_ne] at h
  obtain ⟨h1, h2⟩ := h
  refine ⟨fun s hs => ?_, fun _ s hs => ?_, by unfold LIM; omega, ?_⟩
  · obtain ⟨⟨⟨⟨⟨a, b⟩, c⟩, d⟩, e⟩, f⟩ := h1 s hs
    exact ⟨⟨a, b⟩, by unfold LIM; omega, d⟩
  · obtain ⟨⟨⟨⟨⟨a, b⟩, c⟩, d⟩, e⟩, f⟩ := h1 s hs
    exact ⟨e, f⟩
  · rw [List.all_eq_true]
    intro s hs
    obtain ⟨⟨⟨⟨⟨a, b⟩, c⟩, d⟩, e⟩, f⟩ := h1 s hs
    exact decide_eq_true c
theorem good1 : goodB st1 = true := by kernel_rfl
theorem good2 : goodB st2 = true := by kernel_rfl
theorem good3 : goodB st3 = true := by kernel_rfl
theorem good4 : goodB st4 = true := by kernel_rfl
end Go.Proofs.YtgjgllfeinjpnaaGreatDoor
/- A law's run: "X, w := expr.Eval(of(S), row)". -/
namespace Go.Proofs.YtgjgllfeinjpnaaGreatDoor
open Go.RowKit
set_option linter.unusedSimpArgs false
set_option linter.unusedVariables false
/-- a value's box -/
def BoxT (n : Nat) (w : World) (g : Nat) (t : VT) : Prop := ∃ v0 v1 v2 v3 v4 v5, w.heap[g]? = some (.cells #[v0, v1, v2, v3, v4, v5] 26 (0, 0)) ∧ RV w n w.heap.size t [v0, v1, v2, v3, v4, v5] ∧ n ≤ g
theorem BoxT.lt {n : Nat} {w : World} {g : Nat} {t : VT} (h : BoxT n w g t) : g < w.heap.size := by
  obtain ⟨_, _, _, _, _, _, h1, _, _⟩ := h
  exact lt_of_block h1
theorem BoxT.keep {n : Nat} {w w' : World} {g : Nat} {t : VT} (h : BoxT n w g t) (hb : Below w.heap.size w w') : BoxT n w' g t := by
  obtain ⟨v0, v1, v2, v3, v4, v5, h1, h2, h3⟩ := h
  exact ⟨v0, v1, v2, v3, v4, v5, blk hb h1, RV.keep (Same.of_below hb) (Nat.le_refl _) hb.size t _ h2, h3⟩
theorem heap_set6 {W : World} {g : Nat} {a0 a1 a2 a3 a4 a5 v0 v1 v2 v3 v4 v5 : Value} {T : TypeId} (h : W.heap[g]? = some (.cells #[a0, a1, a2, a3, a4, a5] T (0, 0))) :
    (W.setCells g 0 [v0, v1, v2, v3, v4, v5]).heap[g]? = some (.cells #[v0, v1, v2, v3, v4, v5] T (0, 0)) :=
  heap_setCell_same _ _ 5 _ _ _ (heap_setCell_same _ _ 4 _ _ _ (heap_setCell_same _ _ 3 _ _ _ (heap_setCell_same _ _ 2 _ _ _ (heap_setCell_same _ _ 1 _ _ _ (heap_setCell_same _ _ 0 _ _ _ h)))))
abbrev set6 (W : World) (g : Nat) (v0 v1 v2 v3 v4 v5 : Value) : World := (((((W.setCell ⟨g, 0, none⟩ v0).setCell ⟨g, 1, none⟩ v1).setCell ⟨g, 2, none⟩ v2).setCell ⟨g, 3, none⟩ v3).setCell ⟨g, 4, none⟩ v4).setCell ⟨g, 5, none⟩ v5
/-- a result stored into a box made ahead of the call -/
theorem BoxT.early {n B : Nat} {W w8 : World} {g lo : Nat} {t : VT} {v0 v1 v2 v3 v4 v5 : Value} (hz : w8.heap[g]? = some zeroO) (hv : RV w8 lo w8.heap.size t [v0, v1, v2, v3, v4, v5]) (hg : g < lo) (hn : n ≤ g) :
    BoxT n (w8.setCells g 0 [v0, v1, v2, v3, v4, v5]) g t := by
  refine ⟨v0, v1, v2, v3, v4, v5, heap_set6 hz, ?_, hn⟩
  exact RV.above hv hg (by omega) (Below.refl _ _)
/-- .. behind it -/
theorem BoxT.late {n : Nat} {w8 : World} {lo : Nat} {t : VT} {v0 v1 v2 v3 v4 v5 : Value} (hv : RV w8 lo w8.heap.size t [v0, v1, v2, v3, v4, v5]) (hl : n ≤ lo) (hn : n ≤ w8.heap.size) :
    BoxT n ((w8.alloc zeroO).setCells w8.heap.size 0 [v0, v1, v2, v3, v4, v5]) w8.heap.size t := by
  refine ⟨v0, v1, v2, v3, v4, v5, heap_set6 (heap_last _ _), ?_, hn⟩
  have hb : Below w8.heap.size w8 ((w8.alloc zeroO).setCells w8.heap.size 0 [v0, v1, v2, v3, v4, v5]) := setCells_below (Nat.le_refl _) _ _ _ (below_new _)
  exact RV.keep (Same.of_below hb) hl hb.size t _ hv
/-- the row { a: 1 } in two blocks -/
def RowAt (n : Nat) (w : World) : Prop := w.heap[n]? = some (.cells #[.string nA, .int .u8 2, .bool false, .int .i64 1, .string ⟨#[]⟩, .slice none 0 0, .slice none 0 0] 29 (0, 0)) ∧
  w.heap[n + 1]? = some (.cells #[.int .u8 6, .bool false, .int .i64 0, .string ⟨#[]⟩, .slice none 0 0, .slice (some ⟨n, 0, none⟩) 1 1] 26 (0, 0))
theorem RowAt.keep {n : Nat} {w w' : World} (h : RowAt n w) (hb : Below w.heap.size w w') : RowAt n w' := ⟨blk hb h.1, blk hb h.2⟩
theorem RowAt.rv {n : Nat} {w : World} (h : RowAt n w) : RV w 0 w.heap.size row1 [.int .u8 6, .bool false, .int .i64 0, .string ⟨#[]⟩, .slice none 0 0, .slice (some ⟨n, 0, none⟩) 1 1] := by
  obtain ⟨h1, h2⟩ := h
  have hl := lt_of_block h1
  obtain ⟨y0, y1, y2, y3, y4, y5, y6, y7⟩ := cells7' h1
  refine ⟨_, _, _, _, rfl, by decide, by unfold I64; decide, by decide, by decide, by decide, by decide, by decide, Or.inl rfl, Or.inr ⟨n, 0, rfl, by omega, hl, ⟨y0, by decide, _, _, _, _, _, _, y1, y2, y3, y4, y5, y6, ?_⟩, trivial⟩⟩
  exact rv_int 1 (by unfold I64; decide) w
/-- a run from W on: the result's box g -/
def Cut (W wx : World) (g : Nat) (t : VT) : Prop := Below W.heap.size W wx ∧ BoxT W.heap.size wx g t
theorem cutA {W w8 : World} {lo : Nat} {t : VT} {v0 v1 v2 v3 v4 v5 : Value} (hB : Below W.heap.size W w8) (hz : w8.heap[W.heap.size]? = some zeroO) (hv : RV w8 lo w8.heap.size t [v0, v1, v2, v3, v4, v5]) (hlo : W.heap.size < lo) :
    Cut W (set6 w8 W.heap.size v0 v1 v2 v3 v4 v5) W.heap.size t := ⟨setCells_below (Nat.le_refl _) [_, _, _, _, _, _] 0 _ hB, BoxT.early (B := 0) (W := w8) hz hv hlo (Nat.le_refl _)⟩
theorem cutB {W w5 w8 : World} {t : VT} {v0 v1 v2 v3 v4 v5 : Value} (hB : Below W.heap.size W w5) (hb8 : Below (w5.alloc zeroO).heap.size (w5.alloc zeroO) w8) (hv : RV w8 (w5.alloc zeroO).heap.size w8.heap.size t [v0, v1, v2, v3, v4, v5]) :
    Cut W (set6 w8 w5.heap.size v0 v1 v2 v3 v4 v5) w5.heap.size t := by
  have h1 := below_call0 (below_new (w := w5) zeroO) (below_new (w := w5) zeroO).size hb8
  have h2 := below_call0 hB hB.size h1
  exact ⟨setCells_below hB.size [_, _, _, _, _, _] 0 _ h2, BoxT.early (B := 0) (W := w8) (blk hb8 (heap_last w5 zeroO)) hv (by simp) hB.size⟩
theorem cutC {W w8 : World} {lo : Nat} {t : VT} {v0 v1 v2 v3 v4 v5 : Value} (hB : Below W.heap.size W w8) (hv : RV w8 lo w8.heap.size t [v0, v1, v2, v3, v4, v5]) (hlo : W.heap.size ≤ lo) :
    Cut W (set6 (w8.alloc zeroO) w8.heap.size v0 v1 v2 v3 v4 v5) w8.heap.size t :=
  ⟨setCells_below hB.size [_, _, _, _, _, _] 0 _ (below_call0 hB hB.size (below_new _)), BoxT.late hv hlo hB.size⟩
theorem cutD {W w8 : World} {lo : Nat} {t : VT} {v0 v1 v2 v3 v4 v5 : Value} (hB : Below W.heap.size W w8) (hv : RV w8 lo w8.heap.size t [v0, v1, v2, v3, v4, v5]) (hlo : W.heap.size ≤ lo) :
    Cut W (w8.alloc (.cells #[v0, v1, v2, v3, v4, v5] 26)) w8.heap.size t :=
  ⟨below_call0 hB hB.size (below_new _), _, _, _, _, _, _, heap_last _ _, RV.keep (Same.of_below (below_new _)) hlo (below_new _).size t _ hv, hB.size⟩
theorem BoxT.cells {m : Nat} {w : World} {g : Nat} {k : Int} {b : Bool} {n : Int} {s : ByteArray} {l : VL} {f : FL} (h : BoxT m w g (.mk k b n s l f)) : ∃ a1 c1 a2 c2, w.heap[g]? = some (.cells #[.int .u8 k, .bool b, .int .i64 n, .string s, .slice a1 l.len c1, .slice a2 f.len c2] 26 (0, 0)) ∧ RV w m w.heap.size (.mk k b n s l f) [.int .u8 k, .bool b, .int .i64 n, .string s, .slice a1 l.len c1, .slice a2 f.len c2] := by
  obtain ⟨v0, v1, v2, v3, v4, v5, h1, h2, _⟩ := h
  obtain ⟨k', b', n', s', l', f', a1, c1, a2, c2, e1, e2, _⟩ := RV.mk_parts h2
  cases e1
  simp only [List.cons.injEq, and_true] at e2
  obtain ⟨rfl, rfl, rfl, rfl, rfl, rfl⟩ := e2
  exact ⟨a1, c1, a2, c2, h1, h2⟩
end Go.Proofs.YtgjgllfeinjpnaaGreatDoor
