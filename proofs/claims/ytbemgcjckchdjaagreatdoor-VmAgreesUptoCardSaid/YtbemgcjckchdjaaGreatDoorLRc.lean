import Derived.Test.YtbemgcjckchdjaaGreatDoorLEk
import Derived.KernelRfl
/- What the laws' own conditions come to: plain facts by the kernel. -/
namespace Go.Proofs.YtbemgcjckchdjaaGreatDoor
open Go.RowKit
set_option linter.unusedSimpArgs false
set_option linter.unusedVariables false
abbrev nA : ByteArray := ⟨#[97]⟩
abbrev nB : ByteArray := ⟨#[98]⟩
abbrev Tf : VT := Eg (.cons nA (CQ 1) .nil)
abbrev pA : ST := ⟨6, nA, 0⟩
abbrev pB : ST := ⟨6, nB, 0⟩
abbrev oP (k : Int) : ST := ⟨k, ⟨#[]⟩, 0⟩
abbrev nI (n : Int) : ST := ⟨4, ⟨#[]⟩, n⟩
set_option maxRecDepth 100000
def GB (l : List ST) : Bool := l.all (fun s => decide (-9223372036854775808 ≤ s.n) && decide (s.n ≤ 9223372036854775807) && decide (s.t.size ≤ 1024) && decide (0 ≤ s.k) && !(s.k == 7) && !(s.k == 8)) && decide (l.length ≤ 128)
theorem Gg {l : List ST} (h : GB l = true) : (∀ s ∈ l, Be s) ∧ SH l ∧ l.length ≤ LIM ∧ (l.all fun x => decide (x.t.size ≤ 1024)) = true := by
 unfold GB at h
 simp only [Bool.and_eq_true, List.all_eq_true, decide_eq_true_eq, Bool.not_eq_true', beq_eq_false_iff_ne] at h
 obtain ⟨h1, h2⟩ := h
 refine ⟨fun s hs => ?_, fun _ s hs => ?_, by unfold LIM; omega, ?_⟩
 · obtain ⟨⟨⟨⟨⟨a, b⟩, c⟩, d⟩, e⟩, f⟩ := h1 s hs
   exact ⟨⟨a, b⟩, by unfold LIM; omega, d⟩
 · obtain ⟨⟨⟨⟨⟨a, b⟩, c⟩, d⟩, e⟩, f⟩ := h1 s hs
   exact ⟨e, f⟩
 · rw [List.all_eq_true]
   intro s hs
   obtain ⟨⟨⟨⟨⟨a, b⟩, c⟩, d⟩, e⟩, f⟩ := h1 s hs
   exact decide_eq_true c
/- A law's run: "X, w := expr.Eval(of(S), row)". -/
def BoxT (n : Nat) (w : World) (g : Nat) (t : VT) : Prop := ∃ v0 v1 v2 v3 v4 v5, w.heap[g]? = some (.cells #[v0, v1, v2, v3, v4, v5] 27 (0, 0)) ∧ RV w n w.heap.size t [v0, v1, v2, v3, v4, v5] ∧ n ≤ g
theorem BoxT.lt {n : Nat} {w : World} {g : Nat} {t : VT} (h : BoxT n w g t) : g < w.heap.size := by
 obtain ⟨_, _, _, _, _, _, h1, _, _⟩ := h
 exact lt_of_block h1
theorem BoxT.keep {n : Nat} {w w' : World} {g : Nat} {t : VT} (h : BoxT n w g t) (hb : Below w.heap.size w w') : BoxT n w' g t := by
 obtain ⟨v0, v1, v2, v3, v4, v5, h1, h2, h3⟩ := h
 exact ⟨v0, v1, v2, v3, v4, v5, blk hb h1, RV.keep (Same.of_below hb) (Nat.le_refl _) hb.size t _ h2, h3⟩
theorem EI {W : World} {g : Nat} {a0 a1 a2 a3 a4 a5 v0 v1 v2 v3 v4 v5 : Value} {T : TypeId} (h : W.heap[g]? = some (.cells #[a0, a1, a2, a3, a4, a5] T (0, 0))) :
  (W.setCells g 0 [v0, v1, v2, v3, v4, v5]).heap[g]? = some (.cells #[v0, v1, v2, v3, v4, v5] T (0, 0)) :=
 heap_setCell_same _ _ 5 _ _ _ (heap_setCell_same _ _ 4 _ _ _ (heap_setCell_same _ _ 3 _ _ _ (heap_setCell_same _ _ 2 _ _ _ (heap_setCell_same _ _ 1 _ _ _ (heap_setCell_same _ _ 0 _ _ _ h)))))
abbrev Ni (W : World) (g : Nat) (v0 v1 v2 v3 v4 v5 : Value) : World := (((((W.setCell ⟨g, 0, none⟩ v0).setCell ⟨g, 1, none⟩ v1).setCell ⟨g, 2, none⟩ v2).setCell ⟨g, 3, none⟩ v3).setCell ⟨g, 4, none⟩ v4).setCell ⟨g, 5, none⟩ v5
theorem BoxT.early {n B : Nat} {W w8 : World} {g lo : Nat} {t : VT} {v0 v1 v2 v3 v4 v5 : Value} (hz : w8.heap[g]? = some Ah) (hv : RV w8 lo w8.heap.size t [v0, v1, v2, v3, v4, v5]) (hg : g < lo) (hn : n ≤ g) :
  BoxT n (w8.setCells g 0 [v0, v1, v2, v3, v4, v5]) g t := by
 refine ⟨v0, v1, v2, v3, v4, v5, EI hz, ?_, hn⟩
 exact RV.above hv hg (by omega) (Below.refl _ _)
def RowAt (n : Nat) (w : World) : Prop := w.heap[n]? = some (.cells #[.string nA, .int .u8 2, .bool false, .int .i64 1, .string ⟨#[]⟩, .slice none 0 0, .slice none 0 0] 53 (0, 0)) ∧
 w.heap[n + 1]? = some (.cells #[.int .u8 6, .bool false, .int .i64 0, .string ⟨#[]⟩, .slice none 0 0, .slice (some ⟨n, 0, none⟩) 1 1] 27 (0, 0))
theorem RowAt.keep {n : Nat} {w w' : World} (h : RowAt n w) (hb : Below w.heap.size w w') : RowAt n w' := ⟨blk hb h.1, blk hb h.2⟩
theorem RowAt.rv {n : Nat} {w : World} (h : RowAt n w) : RV w 0 w.heap.size Tf [.int .u8 6, .bool false, .int .i64 0, .string ⟨#[]⟩, .slice none 0 0, .slice (some ⟨n, 0, none⟩) 1 1] := by
 obtain ⟨h1, h2⟩ := h
 have hl := lt_of_block h1
 obtain ⟨y0, y1, y2, y3, y4, y5, y6, y7⟩ := BN h1
 refine ⟨_, _, _, _, rfl, by decide, by unfold I64; decide, by decide, by decide, by decide, by decide, by decide, Or.inl rfl, Or.inr ⟨n, 0, rfl, by omega, hl, ⟨y0, by decide, _, _, _, _, _, _, y1, y2, y3, y4, y5, y6, ?_⟩, trivial⟩⟩
 exact Gu 1 (by unfold I64; decide) w
def Cut (W wx : World) (g : Nat) (t : VT) : Prop := Below W.heap.size W wx ∧ BoxT W.heap.size wx g t
theorem Pp {W w8 : World} {lo : Nat} {t : VT} {v0 v1 v2 v3 v4 v5 : Value} (hB : Below W.heap.size W w8) (hz : w8.heap[W.heap.size]? = some Ah) (hv : RV w8 lo w8.heap.size t [v0, v1, v2, v3, v4, v5]) (hlo : W.heap.size < lo) :
 Cut W (Ni w8 W.heap.size v0 v1 v2 v3 v4 v5) W.heap.size t := ⟨Ag (Nat.le_refl _) [_, _, _, _, _, _] 0 _ hB, BoxT.early (B := 0) (W := w8) hz hv hlo (Nat.le_refl _)⟩
theorem Pq {W w5 w8 : World} {t : VT} {v0 v1 v2 v3 v4 v5 : Value} (hB : Below W.heap.size W w5) (hb8 : Below (w5.alloc Ah).heap.size (w5.alloc Ah) w8) (hv : RV w8 (w5.alloc Ah).heap.size w8.heap.size t [v0, v1, v2, v3, v4, v5]) :
  Cut W (Ni w8 w5.heap.size v0 v1 v2 v3 v4 v5) w5.heap.size t := by
 have h1 := Aa (Ad (w := w5) Ah) (Ad (w := w5) Ah).size hb8
 have h2 := Aa hB hB.size h1
 exact ⟨Ag hB.size [_, _, _, _, _, _] 0 _ h2, BoxT.early (B := 0) (W := w8) (blk hb8 (Ab w5 Ah)) hv (by simp) hB.size⟩
theorem Pr {W w8 : World} {lo : Nat} {t : VT} {v0 v1 v2 v3 v4 v5 : Value} (hB : Below W.heap.size W w8) (hv : RV w8 lo w8.heap.size t [v0, v1, v2, v3, v4, v5]) (hlo : W.heap.size ≤ lo) :
  Cut W (w8.alloc (.cells #[v0, v1, v2, v3, v4, v5] 27)) w8.heap.size t :=
 ⟨Aa hB hB.size (Ad _), _, _, _, _, _, _, Ab _ _, RV.keep (Same.of_below (Ad _)) hlo (Ad _).size t _ hv, hB.size⟩
theorem BoxT.cells {m : Nat} {w : World} {g : Nat} {k : Int} {b : Bool} {n : Int} {s : ByteArray} {l : VL} {f : FL} (h : BoxT m w g (.mk k b n s l f)) : ∃ a1 c1 a2 c2, w.heap[g]? = some (.cells #[.int .u8 k, .bool b, .int .i64 n, .string s, .slice a1 l.len c1, .slice a2 f.len c2] 27 (0, 0)) ∧ RV w m w.heap.size (.mk k b n s l f) [.int .u8 k, .bool b, .int .i64 n, .string s, .slice a1 l.len c1, .slice a2 f.len c2] := by
 obtain ⟨v0, v1, v2, v3, v4, v5, h1, h2, _⟩ := h
 obtain ⟨k', b', n', s', l', f', a1, c1, a2, c2, e1, e2, _⟩ := RV.mk_parts h2
 cases e1
 simp only [List.cons.injEq, and_true] at e2
 obtain ⟨rfl, rfl, rfl, rfl, rfl, rfl⟩ := e2
 exact ⟨a1, c1, a2, c2, h1, h2⟩
end Go.Proofs.YtbemgcjckchdjaaGreatDoor
