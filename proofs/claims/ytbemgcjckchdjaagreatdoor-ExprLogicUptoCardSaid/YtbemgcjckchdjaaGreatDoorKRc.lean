import Derived.Test.YtbemgcjckchdjaaGreatDoorKEk
import Derived.KernelRfl
/- What the laws' own conditions come to: plain facts by the kernel. -/
namespace Go.Proofs.YtbemgcjckchdjaaGreatDoor
open Go.RowKit
set_option linter.unusedSimpArgs false
set_option linter.unusedVariables false
abbrev nA : ByteArray := ⟨#[97]⟩
abbrev nB : ByteArray := ⟨#[98]⟩
/-- the row { a: 1 } -/
abbrev row1 : VT := structV (.cons nA (intV 1) .nil)
/-- the laws' texts: a + 1 = 2; b > 1; a < 'x'; a = 2 AND a < 'x' -/
def tx1 : ByteArray := ⟨#[97, 32, 43, 32, 49, 32, 61, 32, 50]⟩
def tx2 : ByteArray := ⟨#[98, 32, 62, 32, 49]⟩
def tx3 : ByteArray := ⟨#[97, 32, 60, 32, 39, 120, 39]⟩
def tx4 : ByteArray := ⟨#[97, 32, 61, 32, 50, 32, 65, 78, 68, 32, 97, 32, 60, 32, 39, 120, 39]⟩
abbrev pA : ST := ⟨6, nA, 0⟩
abbrev pB : ST := ⟨6, nB, 0⟩
abbrev oP (k : Int) : ST := ⟨k, ⟨#[]⟩, 0⟩
abbrev nI (n : Int) : ST := ⟨4, ⟨#[]⟩, n⟩
def st1 : List ST := [pA, nI 1, oP 12, nI 2, oP 15]
def st2 : List ST := [pB, nI 1, oP 19]
def st3 : List ST := [pA, ⟨5, ⟨#[120]⟩, 0⟩, oP 17]
def st4 : List ST := [pA, nI 2, oP 15, pA, ⟨5, ⟨#[120]⟩, 0⟩, oP 17, oP 21]
set_option maxRecDepth 100000
theorem cond1 : condP tx1 = some st1 := by kernel_rfl
theorem cond2 : condP tx2 = some st2 := by kernel_rfl
theorem cond3 : condP tx3 = some st3 := by kernel_rfl
theorem cond4 : condP tx4 = some st4 := by kernel_rfl
theorem eval1 : evalE st1 row1 = (truthV true, 0) := by kernel_rfl
theorem eval2 : evalE st2 row1 = (nullV, 0) := by kernel_rfl
theorem eval3 : evalE st3 row1 = (nullV, 5) := by kernel_rfl
theorem eval4 : holdsE st4 row1 = (false, 0) := by kernel_rfl
/-- what the laws ask of the steps, by a Bool -/
def goodB (l : List ST) : Bool := l.all (fun s => decide (-9223372036854775808 ≤ s.n) && decide (s.n ≤ 9223372036854775807) && decide (s.t.size ≤ 1024) && decide (0 ≤ s.k) && !(s.k == 7) && !(s.k == 8)) && decide (l.length ≤ 128)
theorem goodB_all {l : List ST} (h : goodB l = true) : (∀ s ∈ l, StOk s) ∧ Plain l ∧ l.length ≤ LIM ∧ (l.all fun x => decide (x.t.size ≤ 1024)) = true := by
  unfold goodB at h
  simp only [Bool.and_eq_true, List.all_eq_true, decide_eq_true_eq, Bool.not_eq_true', beq_eq_false_iff_ne] at h
  obtain ⟨h1, h2⟩ := h
  refine ⟨fun s hs => ?_, fun _ s hs => ?_, by unfold LIM; omega, ?_⟩
  · obtain ⟨⟨⟨⟨⟨a, b⟩, c⟩, d⟩, e⟩, f⟩ := h1 s hs
    exact ⟨⟨a, b⟩, by unfold LIM; omega, d⟩
  · obtain ⟨⟨⟨⟨⟨a, b⟩, c⟩, d⟩, e⟩, f⟩ := h1 s hs
    exact ⟨e, f⟩
  · rw [List.all_eq_true]
    intro s hs
    obtain ⟨⟨⟨⟨⟨a, b⟩, c⟩, d⟩, e⟩, f⟩ := h1 s hs
    exact decide_eq_true c
theorem good1 : goodB st1 = true := by kernel_rfl
theorem good2 : goodB st2 = true := by kernel_rfl
theorem good3 : goodB st3 = true := by kernel_rfl
theorem good4 : goodB st4 = true := by kernel_rfl
end Go.Proofs.YtbemgcjckchdjaaGreatDoor
/- A law's run: "X, w := expr.Eval(of(S), row)". -/
namespace Go.Proofs.YtbemgcjckchdjaaGreatDoor
open Go.RowKit
set_option linter.unusedSimpArgs false
set_option linter.unusedVariables false
/-- a value's box -/
def BoxT (n : Nat) (w : World) (g : Nat) (t : VT) : Prop := ∃ v0 v1 v2 v3 v4 v5, w.heap[g]? = some (.cells #[v0, v1, v2, v3, v4, v5] 27 (0, 0)) ∧ RV w n w.heap.size t [v0, v1, v2, v3, v4, v5] ∧ n ≤ g
theorem BoxT.lt {n : Nat} {w : World} {g : Nat} {t : VT} (h : BoxT n w g t) : g < w.heap.size := by
  obtain ⟨_, _, _, _, _, _, h1, _, _⟩ := h
  exact lt_of_block h1
theorem BoxT.keep {n : Nat} {w w' : World} {g : Nat} {t : VT} (h : BoxT n w g t) (hb : Below w.heap.size w w') : BoxT n w' g t := by
  obtain ⟨v0, v1, v2, v3, v4, v5, h1, h2, h3⟩ := h
  exact ⟨v0, v1, v2, v3, v4, v5, blk hb h1, RV.keep (Same.of_below hb) (Nat.le_refl _) hb.size t _ h2, h3⟩
theorem heap_set6 {W : World} {g : Nat} {a0 a1 a2 a3 a4 a5 v0 v1 v2 v3 v4 v5 : Value} {T : TypeId} (h : W.heap[g]? = some (.cells #[a0, a1, a2, a3, a4, a5] T (0, 0))) :
    (W.setCells g 0 [v0, v1, v2, v3, v4, v5]).heap[g]? = some (.cells #[v0, v1, v2, v3, v4, v5] T (0, 0)) :=
  heap_setCell_same _ _ 5 _ _ _ (heap_setCell_same _ _ 4 _ _ _ (heap_setCell_same _ _ 3 _ _ _ (heap_setCell_same _ _ 2 _ _ _ (heap_setCell_same _ _ 1 _ _ _ (heap_setCell_same _ _ 0 _ _ _ h)))))
abbrev set6 (W : World) (g : Nat) (v0 v1 v2 v3 v4 v5 : Value) : World := (((((W.setCell ⟨g, 0, none⟩ v0).setCell ⟨g, 1, none⟩ v1).setCell ⟨g, 2, none⟩ v2).setCell ⟨g, 3, none⟩ v3).setCell ⟨g, 4, none⟩ v4).setCell ⟨g, 5, none⟩ v5
/-- a result stored into a box made ahead of the call -/
theorem BoxT.early {n B : Nat} {W w8 : World} {g lo : Nat} {t : VT} {v0 v1 v2 v3 v4 v5 : Value} (hz : w8.heap[g]? = some zeroO) (hv : RV w8 lo w8.heap.size t [v0, v1, v2, v3, v4, v5]) (hg : g < lo) (hn : n ≤ g) :
    BoxT n (w8.setCells g 0 [v0, v1, v2, v3, v4, v5]) g t := by
  refine ⟨v0, v1, v2, v3, v4, v5, heap_set6 hz, ?_, hn⟩
  exact RV.above hv hg (by omega) (Below.refl _ _)
/-- .. behind it -/
theorem BoxT.late {n : Nat} {w8 : World} {lo : Nat} {t : VT} {v0 v1 v2 v3 v4 v5 : Value} (hv : RV w8 lo w8.heap.size t [v0, v1, v2, v3, v4, v5]) (hl : n ≤ lo) (hn : n ≤ w8.heap.size) :
    BoxT n ((w8.alloc zeroO).setCells w8.heap.size 0 [v0, v1, v2, v3, v4, v5]) w8.heap.size t := by
  refine ⟨v0, v1, v2, v3, v4, v5, heap_set6 (heap_last _ _), ?_, hn⟩
  have hb : Below w8.heap.size w8 ((w8.alloc zeroO).setCells w8.heap.size 0 [v0, v1, v2, v3, v4, v5]) := setCells_below (Nat.le_refl _) _ _ _ (below_new _)
  exact RV.keep (Same.of_below hb) hl hb.size t _ hv
/-- the row { a: 1 } in two blocks -/
def RowAt (n : Nat) (w : World) : Prop := w.heap[n]? = some (.cells #[.string nA, .int .u8 2, .bool false, .int .i64 1, .string ⟨#[]⟩, .slice none 0 0, .slice none 0 0] 53 (0, 0)) ∧
  w.heap[n + 1]? = some (.cells #[.int .u8 6, .bool false, .int .i64 0, .string ⟨#[]⟩, .slice none 0 0, .slice (some ⟨n, 0, none⟩) 1 1] 27 (0, 0))
theorem RowAt.keep {n : Nat} {w w' : World} (h : RowAt n w) (hb : Below w.heap.size w w') : RowAt n w' := ⟨blk hb h.1, blk hb h.2⟩
theorem RowAt.rv {n : Nat} {w : World} (h : RowAt n w) : RV w 0 w.heap.size row1 [.int .u8 6, .bool false, .int .i64 0, .string ⟨#[]⟩, .slice none 0 0, .slice (some ⟨n, 0, none⟩) 1 1] := by
  obtain ⟨h1, h2⟩ := h
  have hl := lt_of_block h1
  obtain ⟨y0, y1, y2, y3, y4, y5, y6, y7⟩ := cells7' h1
  refine ⟨_, _, _, _, rfl, by decide, by unfold I64; decide, by decide, by decide, by decide, by decide, by decide, Or.inl rfl, Or.inr ⟨n, 0, rfl, by omega, hl, ⟨y0, by decide, _, _, _, _, _, _, y1, y2, y3, y4, y5, y6, ?_⟩, trivial⟩⟩
  exact rv_int 1 (by unfold I64; decide) w
/-- a run from W on: the result's box g -/
def Cut (W wx : World) (g : Nat) (t : VT) : Prop := Below W.heap.size W wx ∧ BoxT W.heap.size wx g t
theorem cutA {W w8 : World} {lo : Nat} {t : VT} {v0 v1 v2 v3 v4 v5 : Value} (hB : Below W.heap.size W w8) (hz : w8.heap[W.heap.size]? = some zeroO) (hv : RV w8 lo w8.heap.size t [v0, v1, v2, v3, v4, v5]) (hlo : W.heap.size < lo) :
    Cut W (set6 w8 W.heap.size v0 v1 v2 v3 v4 v5) W.heap.size t := ⟨setCells_below (Nat.le_refl _) [_, _, _, _, _, _] 0 _ hB, BoxT.early (B := 0) (W := w8) hz hv hlo (Nat.le_refl _)⟩
theorem cutB {W w5 w8 : World} {t : VT} {v0 v1 v2 v3 v4 v5 : Value} (hB : Below W.heap.size W w5) (hb8 : Below (w5.alloc zeroO).heap.size (w5.alloc zeroO) w8) (hv : RV w8 (w5.alloc zeroO).heap.size w8.heap.size t [v0, v1, v2, v3, v4, v5]) :
    Cut W (set6 w8 w5.heap.size v0 v1 v2 v3 v4 v5) w5.heap.size t := by
  have h1 := below_call0 (below_new (w := w5) zeroO) (below_new (w := w5) zeroO).size hb8
  have h2 := below_call0 hB hB.size h1
  exact ⟨setCells_below hB.size [_, _, _, _, _, _] 0 _ h2, BoxT.early (B := 0) (W := w8) (blk hb8 (heap_last w5 zeroO)) hv (by simp) hB.size⟩
theorem cutC {W w8 : World} {lo : Nat} {t : VT} {v0 v1 v2 v3 v4 v5 : Value} (hB : Below W.heap.size W w8) (hv : RV w8 lo w8.heap.size t [v0, v1, v2, v3, v4, v5]) (hlo : W.heap.size ≤ lo) :
    Cut W (set6 (w8.alloc zeroO) w8.heap.size v0 v1 v2 v3 v4 v5) w8.heap.size t :=
  ⟨setCells_below hB.size [_, _, _, _, _, _] 0 _ (below_call0 hB hB.size (below_new _)), BoxT.late hv hlo hB.size⟩
theorem cutD {W w8 : World} {lo : Nat} {t : VT} {v0 v1 v2 v3 v4 v5 : Value} (hB : Below W.heap.size W w8) (hv : RV w8 lo w8.heap.size t [v0, v1, v2, v3, v4, v5]) (hlo : W.heap.size ≤ lo) :
    Cut W (w8.alloc (.cells #[v0, v1, v2, v3, v4, v5] 27)) w8.heap.size t :=
  ⟨below_call0 hB hB.size (below_new _), _, _, _, _, _, _, heap_last _ _, RV.keep (Same.of_below (below_new _)) hlo (below_new _).size t _ hv, hB.size⟩
theorem BoxT.cells {m : Nat} {w : World} {g : Nat} {k : Int} {b : Bool} {n : Int} {s : ByteArray} {l : VL} {f : FL} (h : BoxT m w g (.mk k b n s l f)) : ∃ a1 c1 a2 c2, w.heap[g]? = some (.cells #[.int .u8 k, .bool b, .int .i64 n, .string s, .slice a1 l.len c1, .slice a2 f.len c2] 27 (0, 0)) ∧ RV w m w.heap.size (.mk k b n s l f) [.int .u8 k, .bool b, .int .i64 n, .string s, .slice a1 l.len c1, .slice a2 f.len c2] := by
  obtain ⟨v0, v1, v2, v3, v4, v5, h1, h2, _⟩ := h
  obtain ⟨k', b', n', s', l', f', a1, c1, a2, c2, e1, e2, _⟩ := RV.mk_parts h2
  cases e1
  simp only [List.cons.injEq, and_true] at e2
  obtain ⟨rfl, rfl, rfl, rfl, rfl, rfl⟩ := e2
  exact ⟨a1, c1, a2, c2, h1, h2⟩
end Go.Proofs.YtbemgcjckchdjaaGreatDoor
/- codicillaw11.lives (printed by genlives.py). -/
namespace Go.Proofs.YtbemgcjckchdjaaGreatDoor
open Go.RowKit
set_option linter.unusedSimpArgs false
set_option linter.unusedVariables false
set_option maxHeartbeats 4000000
set_option maxRecDepth 100000
theorem lives_calls (w : World) (hL : Laid w) : Calls Tryz.prog 8 #[] w fun e w' => e = .returned (.bool true) ∧ Below w.heap.size w w' := by
  have HLD := Lib.hid hL
  clear hL
  go_enter Tryz.func8, Tryz.ntmps8
  go_upto_region 2 with (fail)
  have hR : RowAt w.heap.size ((w.alloc (.cells #[.string nA, .int .u8 2, .bool false, .int .i64 1, .string ⟨#[]⟩, .slice none 0 0, .slice none 0 0] 53)).alloc (.cells #[.int .u8 6, .bool false, .int .i64 0, .string ⟨#[]⟩, .slice none 0 0, .slice (some ⟨w.heap.size, 0, none⟩) 1 1] 27)) := ⟨blk_alloc (heap_last _ _), by simpa using heap_last (w.alloc (.cells #[.string nA, .int .u8 2, .bool false, .int .i64 1, .string ⟨#[]⟩, .slice none 0 0, .slice none 0 0] 53)) (.cells #[.int .u8 6, .bool false, .int .i64 0, .string ⟨#[]⟩, .slice none 0 0, .slice (some ⟨w.heap.size, 0, none⟩) 1 1] 27)⟩
  have hB := two_allocs (w := w) (.cells #[.string nA, .int .u8 2, .bool false, .int .i64 1, .string ⟨#[]⟩, .slice none 0 0, .slice none 0 0] 53) (.cells #[.int .u8 6, .bool false, .int .i64 0, .string ⟨#[]⟩, .slice none 0 0, .slice (some ⟨w.heap.size, 0, none⟩) 1 1] 27)
  generalize (w.alloc (.cells #[.string nA, .int .u8 2, .bool false, .int .i64 1, .string ⟨#[]⟩, .slice none 0 0, .slice none 0 0] 53)).alloc (.cells #[.int .u8 6, .bool false, .int .i64 0, .string ⟨#[]⟩, .slice none 0 0, .slice (some ⟨w.heap.size, 0, none⟩) 1 1] 27) = W at *
  have HROW := Lib.hid hR
  have HBW := Lib.hid hB
  clear hR hB
  have HOF := Lib.hid (fun (w' : World) (hb : Below W.heap.size W w') => of_calls tx1 st1 w' (HLD.out.below (below_call0 HBW.out HBW.out.size hb)) (by decide) cond1 (goodB_all good1).2.2.2)
  have hev0 := fun (w' : World) (A : Option Addr) (c : Nat) (hb : Below W.heap.size W w') (hr : RowS w' st1 A) => eval_calls st1 A c row1 _ _ _ _ _ _ w' (goodB_all good1).2.2.1 (goodB_all good1).1 (goodB_all good1).2.1 (HLD.out.below (below_call0 HBW.out HBW.out.size hb)) hr (HROW.out.keep hb).rv
  rw [eval1] at hev0
  have HEV := Lib.hid hev0
  clear hev0
  obtain ⟨ln, hln⟩ : ∃ x, (st1).length = x := ⟨_, rfl⟩
  rw [hln] at HOF HEV
  unfold tx1 at HOF
  generalize st1 = sts at HOF HEV
  clear hln
  have HDA := Lib.hid (below_new (w := W) zeroO)
  have HDZ := Lib.hid (heap_last W zeroO)
  obtain ⟨y0, y1, y2, y3, y4, y5, y6⟩ := cells6 HROW.out.2
  obtain ⟨x0, x1, x2, x3, x4, x5, x6⟩ := cells6 (blk_alloc (o := zeroO) HROW.out.2)
  go_cut [2, 3] (fun s2 s3 wx => ∃ g, s2 = .pointer (some ⟨g, 0, none⟩) ∧ s3 = .int .i64 0 ∧ Cut W wx g (truthV true))
  case first =>
    go_region_with (first | (go_at_call 22; first | ((with_reducible refine (HOF.out _ (Below.drew (Below.refl _ _))).mono ?_); rintro e w5 ⟨A5, c5, rfl, hr5, hc5, hb5⟩; have HB5 := Lib.hid (below_call0 (Below.drew (Below.refl W.heap.size W)) (Nat.le_refl _) hb5); have HR5 := Lib.hid hr5; clear hr5 hb5 y0 y1 y2 y3 y4 y5 y6 x0 x1 x2 x3 x4 x5 x6; obtain ⟨y0, y1, y2, y3, y4, y5, y6⟩ := cells6 (HROW.out.keep HB5.out).2; obtain ⟨x0, x1, x2, x3, x4, x5, x6⟩ := cells6 (blk_alloc (o := zeroO) (HROW.out.keep HB5.out).2)) | ((with_reducible refine (HOF.out _ (Below.drew HDA.out)).mono ?_); rintro e w5 ⟨A5, c5, rfl, hr5, hc5, hb5⟩; have HB5 := Lib.hid (below_call0 (Below.drew HDA.out) HDA.out.size hb5); have HZ5 := Lib.hid (blk (W := (W.alloc zeroO).drew) hb5 HDZ.out); have HR5 := Lib.hid hr5; clear hr5 hb5 y0 y1 y2 y3 y4 y5 y6 x0 x1 x2 x3 x4 x5 x6; obtain ⟨y0, y1, y2, y3, y4, y5, y6⟩ := cells6 (HROW.out.keep HB5.out).2; obtain ⟨x0, x1, x2, x3, x4, x5, x6⟩ := cells6 (blk_alloc (o := zeroO) (HROW.out.keep HB5.out).2))) | (go_at_call 9; first | ((with_reducible refine (HEV.out w5 A5 c5 HB5.out HR5.out).mono ?_); intro e w8 hev; obtain ⟨hb8, a1, c1, a2, c2, rfl, hv8⟩ := hev.parts; have HB8 := Lib.hid hb8; have HV8 := Lib.hid hv8; clear hev hb8 hv8; first | (have hz8 := blk HB8.out HZ5.out; obtain ⟨z0, z1, z2, z3, z4, z5, z6⟩ := cells6 hz8; clear hz8) | skip) | ((with_reducible refine (HEV.out (w5.alloc zeroO) A5 c5 (below_call0 HB5.out HB5.out.size (below_new _)) (RowS.keep HR5.out (below_new _))).mono ?_); intro e w8 hev; obtain ⟨hb8, a1, c1, a2, c2, rfl, hv8⟩ := hev.parts; have HB8 := Lib.hid hb8; have HV8 := Lib.hid hv8; clear hev hb8 hv8; obtain ⟨z0, z1, z2, z3, z4, z5, z6⟩ := cells6 (blk HB8.out (heap_last w5 zeroO)))))
    all_goals (go_wp2_with fail)
    all_goals go_meet
    all_goals (refine ⟨_, rfl, rfl, ?_⟩)
    all_goals first | (have hz := blk HB8.out HZ5.out; have hc := cutA (below_call0 HB5.out HB5.out.size HB8.out) hz HV8.out (lt_of_block HZ5.out); with_reducible exact hc) | (have hc := cutD (below_call0 HB5.out HB5.out.size HB8.out) HV8.out HB5.out.size; with_reducible exact hc) | (have hc := cutB HB5.out HB8.out HV8.out; with_reducible exact hc)
  case rest =>
    obtain ⟨g2, rfl, rfl, hcd⟩ := hcut
    have hrow := HROW.out.keep hcd.1
    have hbw := below_call0 HBW.out HBW.out.size hcd.1
    have HX2 := Lib.hid hcd.2
    clear HROW HBW HOF HEV HDA HDZ y0 y1 y2 y3 y4 y5 y6 x0 x1 x2 x3 x4 x5 x6 hcd
    have HROW := Lib.hid hrow
    have HBW := Lib.hid hbw
    clear hrow hbw
    obtain ⟨W2, hW⟩ : ∃ x, x = wc := ⟨_, rfl⟩
    subst hW
    go_upto_region 3 with (fail)
    have HOF := Lib.hid (fun (w' : World) (hb : Below W2.heap.size W2 w') => of_calls tx2 st2 w' (HLD.out.below (below_call0 HBW.out HBW.out.size hb)) (by decide) cond2 (goodB_all good2).2.2.2)
    have hev0 := fun (w' : World) (A : Option Addr) (c : Nat) (hb : Below W2.heap.size W2 w') (hr : RowS w' st2 A) => eval_calls st2 A c row1 _ _ _ _ _ _ w' (goodB_all good2).2.2.1 (goodB_all good2).1 (goodB_all good2).2.1 (HLD.out.below (below_call0 HBW.out HBW.out.size hb)) hr (HROW.out.keep hb).rv
    rw [eval2] at hev0
    have HEV := Lib.hid hev0
    clear hev0
    obtain ⟨ln, hln⟩ : ∃ x, (st2).length = x := ⟨_, rfl⟩
    rw [hln] at HOF HEV
    unfold tx2 at HOF
    generalize st2 = sts at HOF HEV
    clear hln
    have HDA := Lib.hid (below_new (w := W2) zeroO)
    have HDZ := Lib.hid (heap_last W2 zeroO)
    obtain ⟨y0, y1, y2, y3, y4, y5, y6⟩ := cells6 HROW.out.2
    obtain ⟨x0, x1, x2, x3, x4, x5, x6⟩ := cells6 (blk_alloc (o := zeroO) HROW.out.2)
    go_cut [4, 5] (fun s4 s5 wx => ∃ g, s4 = .pointer (some ⟨g, 0, none⟩) ∧ s5 = .int .i64 0 ∧ Cut W2 wx g nullV)
    case first =>
      go_region_with (first | (go_at_call 22; first | ((with_reducible refine (HOF.out _ (Below.drew (Below.refl _ _))).mono ?_); rintro e w5 ⟨A5, c5, rfl, hr5, hc5, hb5⟩; have HB5 := Lib.hid (below_call0 (Below.drew (Below.refl W2.heap.size W2)) (Nat.le_refl _) hb5); have HR5 := Lib.hid hr5; clear hr5 hb5 y0 y1 y2 y3 y4 y5 y6 x0 x1 x2 x3 x4 x5 x6; obtain ⟨y0, y1, y2, y3, y4, y5, y6⟩ := cells6 (HROW.out.keep HB5.out).2; obtain ⟨x0, x1, x2, x3, x4, x5, x6⟩ := cells6 (blk_alloc (o := zeroO) (HROW.out.keep HB5.out).2)) | ((with_reducible refine (HOF.out _ (Below.drew HDA.out)).mono ?_); rintro e w5 ⟨A5, c5, rfl, hr5, hc5, hb5⟩; have HB5 := Lib.hid (below_call0 (Below.drew HDA.out) HDA.out.size hb5); have HZ5 := Lib.hid (blk (W := (W2.alloc zeroO).drew) hb5 HDZ.out); have HR5 := Lib.hid hr5; clear hr5 hb5 y0 y1 y2 y3 y4 y5 y6 x0 x1 x2 x3 x4 x5 x6; obtain ⟨y0, y1, y2, y3, y4, y5, y6⟩ := cells6 (HROW.out.keep HB5.out).2; obtain ⟨x0, x1, x2, x3, x4, x5, x6⟩ := cells6 (blk_alloc (o := zeroO) (HROW.out.keep HB5.out).2))) | (go_at_call 9; first | ((with_reducible refine (HEV.out w5 A5 c5 HB5.out HR5.out).mono ?_); intro e w8 hev; obtain ⟨hb8, a1, c1, a2, c2, rfl, hv8⟩ := hev.parts; have HB8 := Lib.hid hb8; have HV8 := Lib.hid hv8; clear hev hb8 hv8; first | (have hz8 := blk HB8.out HZ5.out; obtain ⟨z0, z1, z2, z3, z4, z5, z6⟩ := cells6 hz8; clear hz8) | skip) | ((with_reducible refine (HEV.out (w5.alloc zeroO) A5 c5 (below_call0 HB5.out HB5.out.size (below_new _)) (RowS.keep HR5.out (below_new _))).mono ?_); intro e w8 hev; obtain ⟨hb8, a1, c1, a2, c2, rfl, hv8⟩ := hev.parts; have HB8 := Lib.hid hb8; have HV8 := Lib.hid hv8; clear hev hb8 hv8; obtain ⟨z0, z1, z2, z3, z4, z5, z6⟩ := cells6 (blk HB8.out (heap_last w5 zeroO)))))
      all_goals (go_wp2_with fail)
      all_goals go_meet
      all_goals (refine ⟨_, rfl, rfl, ?_⟩)
      all_goals first | (have hz := blk HB8.out HZ5.out; have hc := cutA (below_call0 HB5.out HB5.out.size HB8.out) hz HV8.out (lt_of_block HZ5.out); with_reducible exact hc) | (have hc := cutD (below_call0 HB5.out HB5.out.size HB8.out) HV8.out HB5.out.size; with_reducible exact hc) | (have hc := cutB HB5.out HB8.out HV8.out; with_reducible exact hc)
    case rest =>
      obtain ⟨g4, rfl, rfl, hcd⟩ := hcut
      have hrow := HROW.out.keep hcd.1
      have hbw := below_call0 HBW.out HBW.out.size hcd.1
      have hx2 := HX2.out.keep hcd.1
      have HX4 := Lib.hid hcd.2
      clear HROW HBW HOF HEV HDA HDZ y0 y1 y2 y3 y4 y5 y6 x0 x1 x2 x3 x4 x5 x6 hcd HX2
      have HROW := Lib.hid hrow
      have HBW := Lib.hid hbw
      have HX2 := Lib.hid hx2
      clear hrow hbw hx2
      obtain ⟨W4, hW⟩ : ∃ x, x = wc := ⟨_, rfl⟩
      subst hW
      go_upto_region 4 with (fail)
      have HOF := Lib.hid (fun (w' : World) (hb : Below W4.heap.size W4 w') => of_calls tx3 st3 w' (HLD.out.below (below_call0 HBW.out HBW.out.size hb)) (by decide) cond3 (goodB_all good3).2.2.2)
      have hev0 := fun (w' : World) (A : Option Addr) (c : Nat) (hb : Below W4.heap.size W4 w') (hr : RowS w' st3 A) => eval_calls st3 A c row1 _ _ _ _ _ _ w' (goodB_all good3).2.2.1 (goodB_all good3).1 (goodB_all good3).2.1 (HLD.out.below (below_call0 HBW.out HBW.out.size hb)) hr (HROW.out.keep hb).rv
      rw [eval3] at hev0
      have HEV := Lib.hid hev0
      clear hev0
      obtain ⟨ln, hln⟩ : ∃ x, (st3).length = x := ⟨_, rfl⟩
      rw [hln] at HOF HEV
      unfold tx3 at HOF
      generalize st3 = sts at HOF HEV
      clear hln
      have HDA := Lib.hid (below_new (w := W4) zeroO)
      have HDZ := Lib.hid (heap_last W4 zeroO)
      obtain ⟨y0, y1, y2, y3, y4, y5, y6⟩ := cells6 HROW.out.2
      obtain ⟨x0, x1, x2, x3, x4, x5, x6⟩ := cells6 (blk_alloc (o := zeroO) HROW.out.2)
      go_cut [6, 7] (fun s6 s7 wx => ∃ g, s6 = .pointer (some ⟨g, 0, none⟩) ∧ s7 = .int .i64 5 ∧ Cut W4 wx g nullV)
      case first =>
        go_region_with (first | (go_at_call 22; first | ((with_reducible refine (HOF.out _ (Below.drew (Below.refl _ _))).mono ?_); rintro e w5 ⟨A5, c5, rfl, hr5, hc5, hb5⟩; have HB5 := Lib.hid (below_call0 (Below.drew (Below.refl W4.heap.size W4)) (Nat.le_refl _) hb5); have HR5 := Lib.hid hr5; clear hr5 hb5 y0 y1 y2 y3 y4 y5 y6 x0 x1 x2 x3 x4 x5 x6; obtain ⟨y0, y1, y2, y3, y4, y5, y6⟩ := cells6 (HROW.out.keep HB5.out).2; obtain ⟨x0, x1, x2, x3, x4, x5, x6⟩ := cells6 (blk_alloc (o := zeroO) (HROW.out.keep HB5.out).2)) | ((with_reducible refine (HOF.out _ (Below.drew HDA.out)).mono ?_); rintro e w5 ⟨A5, c5, rfl, hr5, hc5, hb5⟩; have HB5 := Lib.hid (below_call0 (Below.drew HDA.out) HDA.out.size hb5); have HZ5 := Lib.hid (blk (W := (W4.alloc zeroO).drew) hb5 HDZ.out); have HR5 := Lib.hid hr5; clear hr5 hb5 y0 y1 y2 y3 y4 y5 y6 x0 x1 x2 x3 x4 x5 x6; obtain ⟨y0, y1, y2, y3, y4, y5, y6⟩ := cells6 (HROW.out.keep HB5.out).2; obtain ⟨x0, x1, x2, x3, x4, x5, x6⟩ := cells6 (blk_alloc (o := zeroO) (HROW.out.keep HB5.out).2))) | (go_at_call 9; first | ((with_reducible refine (HEV.out w5 A5 c5 HB5.out HR5.out).mono ?_); intro e w8 hev; obtain ⟨hb8, a1, c1, a2, c2, rfl, hv8⟩ := hev.parts; have HB8 := Lib.hid hb8; have HV8 := Lib.hid hv8; clear hev hb8 hv8; first | (have hz8 := blk HB8.out HZ5.out; obtain ⟨z0, z1, z2, z3, z4, z5, z6⟩ := cells6 hz8; clear hz8) | skip) | ((with_reducible refine (HEV.out (w5.alloc zeroO) A5 c5 (below_call0 HB5.out HB5.out.size (below_new _)) (RowS.keep HR5.out (below_new _))).mono ?_); intro e w8 hev; obtain ⟨hb8, a1, c1, a2, c2, rfl, hv8⟩ := hev.parts; have HB8 := Lib.hid hb8; have HV8 := Lib.hid hv8; clear hev hb8 hv8; obtain ⟨z0, z1, z2, z3, z4, z5, z6⟩ := cells6 (blk HB8.out (heap_last w5 zeroO)))))
        all_goals (go_wp2_with fail)
        all_goals go_meet
        all_goals (refine ⟨_, rfl, rfl, ?_⟩)
        all_goals first | (have hz := blk HB8.out HZ5.out; have hc := cutA (below_call0 HB5.out HB5.out.size HB8.out) hz HV8.out (lt_of_block HZ5.out); with_reducible exact hc) | (have hc := cutD (below_call0 HB5.out HB5.out.size HB8.out) HV8.out HB5.out.size; with_reducible exact hc) | (have hc := cutB HB5.out HB8.out HV8.out; with_reducible exact hc)
      case rest =>
        obtain ⟨g6, rfl, rfl, hcd⟩ := hcut
        have hrow := HROW.out.keep hcd.1
        have hbw := below_call0 HBW.out HBW.out.size hcd.1
        have hx2 := HX2.out.keep hcd.1
        have hx4 := HX4.out.keep hcd.1
        have HX6 := Lib.hid hcd.2
        clear HROW HBW HOF HEV HDA HDZ y0 y1 y2 y3 y4 y5 y6 x0 x1 x2 x3 x4 x5 x6 hcd HX2 HX4
        have HROW := Lib.hid hrow
        have HBW := Lib.hid hbw
        have HX2 := Lib.hid hx2
        have HX4 := Lib.hid hx4
        clear hrow hbw hx2 hx4
        obtain ⟨W6, hW⟩ : ∃ x, x = wc := ⟨_, rfl⟩
        subst hW
        go_upto_region 5 with (fail)
        have HOF := Lib.hid (fun (w' : World) (hb : Below W6.heap.size W6 w') => of_calls tx4 st4 w' (HLD.out.below (below_call0 HBW.out HBW.out.size hb)) (by decide) cond4 (goodB_all good4).2.2.2)
        have hev0 := fun (w' : World) (A : Option Addr) (c : Nat) (hb : Below W6.heap.size W6 w') (hr : RowS w' st4 A) => holds_calls st4 A c row1 _ _ _ _ _ _ w' (goodB_all good4).2.2.1 (goodB_all good4).1 (goodB_all good4).2.1 (HLD.out.below (below_call0 HBW.out HBW.out.size hb)) hr (HROW.out.keep hb).rv
        rw [eval4] at hev0
        have HEV := Lib.hid hev0
        clear hev0
        obtain ⟨ln, hln⟩ : ∃ x, (st4).length = x := ⟨_, rfl⟩
        rw [hln] at HOF HEV
        unfold tx4 at HOF
        generalize st4 = sts at HOF HEV
        clear hln
        obtain ⟨y0, y1, y2, y3, y4, y5, y6⟩ := cells6 HROW.out.2
        go_cut [8, 9] (fun s8 s9 wx => s8 = .bool false ∧ s9 = .int .i64 0 ∧ Below W6.heap.size W6 wx)
        case first =>
          go_region_with (first | (go_at_call 22; (with_reducible refine (HOF.out _ (Below.drew (Below.refl _ _))).mono ?_); rintro e w5 ⟨A5, c5, rfl, hr5, hc5, hb5⟩; have HB5 := Lib.hid (below_call0 (Below.drew (Below.refl W6.heap.size W6)) (Nat.le_refl _) hb5); have HR5 := Lib.hid hr5; clear hr5 hb5 y0 y1 y2 y3 y4 y5 y6; obtain ⟨y0, y1, y2, y3, y4, y5, y6⟩ := cells6 (HROW.out.keep HB5.out).2) | (go_at_call 18; (with_reducible refine (HEV.out w5 A5 c5 HB5.out HR5.out).mono ?_); rintro e w8 ⟨rfl, hb8⟩; have HB8 := Lib.hid hb8; clear hb8))
          all_goals (go_wp2_with fail)
          all_goals go_meet
          all_goals exact ⟨rfl, rfl, below_call0 HB5.out HB5.out.size HB8.out⟩
        case rest =>
          obtain ⟨rfl, rfl, hcd⟩ := hcut
          have hbw := below_call0 HBW.out HBW.out.size hcd
          have hx2 := HX2.out.keep hcd
          have hx4 := HX4.out.keep hcd
          obtain ⟨_, _, _, _, hz2, _⟩ := hx2.cells
          obtain ⟨_, _, _, _, hz4, _⟩ := hx4.cells
          obtain ⟨p0, p1, p2, p3, p4, p5, p6⟩ := cells6 hz2
          obtain ⟨q0, q1, q2, q3, q4, q5, q6⟩ := cells6 hz4
          have HBF := Lib.hid hbw
          clear hbw hx2 hx4 hz2 hz4 HROW HBW HOF HEV HX2 HX4 HX6 hcd y0 y1 y2 y3 y4 y5 y6
          go_wp2_with fail
          go_ret
          exact ⟨rfl, HBF.out⟩
end Go.Proofs.YtbemgcjckchdjaaGreatDoor
