import Derived.Test.YtbemgcjckchdjaaGreatDoorLCl
import Derived.Test.YtbemgcjckchdjaaGreatDoorLCk
/- vm.Run. -/
namespace Go.Proofs.YtbemgcjckchdjaaGreatDoor
open Go.RowKit
set_option linter.unusedSimpArgs false
set_option linter.unusedVariables false
def RunPost (R : Rz × Nat) (w : World) (e : Ending) (w' : World) : Prop :=
 Below w.heap.size w w' ∧ ∃ v0 v1 v2 v3 v4 v5, e = .returned (.tuple #[.agg #[v0, v1, v2, v3, v4, v5], .int .i64 R.2, .int .i64 R.1.2]) ∧ RV w' w.heap.size w'.heap.size R.1.1 [v0, v1, v2, v3, v4, v5]
theorem Pe {w w' : World} {n : Nat} {y : Int} (hb : Below w.heap.size w w') : RunPost ((Am, y), n) w (.returned (.tuple #[Bs, .int .i64 n, .int .i64 y])) w' := by
 have h : EvPost w (Am, y) (.returned (.tuple #[Bs, .int .i64 y])) w' := Bx hb
 obtain ⟨h1, v0, v1, v2, v3, v4, v5, e, h2⟩ := h
 refine ⟨h1, _, _, _, _, _, _, rfl, ?_⟩
 cases e
 exact h2
theorem Pf {w w' : World} {n : Nat} {x y : Int} (hx : x = (n : Int)) (hb : Below w.heap.size w w') : RunPost ((Am, y), n) w (.returned (.tuple #[Bs, .int .i64 x, .int .i64 y])) w' := by
 subst hx
 exact Pe hb
theorem PG {w : World} {lo : Nat} {t : VT} {cs : List Value} (h : RV w lo w.heap.size t cs) : RV w.drew lo w.drew.heap.size t cs :=
 RV.keep (Same.of_below (Below.drew (Below.refl w.heap.size w))) (Nat.le_refl _) (Nat.le_refl _) _ _ h
theorem OE {w w9 : World} {lo n : Nat} {y x : Int} {t : VT} {v0 v1 v2 v3 v4 v5 : Value} (hx : x = (n : Int)) (hb : Below w.heap.size w w9) (hg : w.heap.size + 1 < lo) (hl : w.heap.size ≤ lo) (hv : RV w9 lo w9.heap.size t [v0, v1, v2, v3, v4, v5]) :
  RunPost ((t, y), n) w (.returned (.tuple #[.agg #[v0, v1, v2, v3, v4, v5], .int .i64 x, .int .i64 y])) (w9.setCells (w.heap.size + 1) 0 [v0, v1, v2, v3, v4, v5]).drew := by
 subst hx
 have h1 := Ag (B := w.heap.size) (a := w) (g := w.heap.size + 1) (Nat.le_succ _) [v0, v1, v2, v3, v4, v5] 0 _ hb
 have h3 := RV.above (lo' := w.heap.size) (o := 0) (us := [v0, v1, v2, v3, v4, v5]) hv hg hl (Below.refl _ _)
 generalize w9.setCells (w.heap.size + 1) 0 [v0, v1, v2, v3, v4, v5] = X at *
 exact ⟨h1.drew, v0, v1, v2, v3, v4, v5, rfl, PG h3⟩
theorem NZ {p : List IT} {row : VT} {i : Nat} (hi : ¬ i < p.length) (vs : List VT) : ∀ f : Nat, AD p row f i vs = ((Bz vs, 0), f)
 | 0 => by rw [AD, if_neg hi]
 | f + 1 => by rw [AD, dif_neg hi]
def BB (p : List IT) (hF : HT) (row : VT) (M : Nat) (wo : World) (R : Rz × Nat) (wr : World) : Prop :=
 ∃ (i : Nat) (vs : List VT) (f : Int) (hi c : Nat), At p hF i vs ∧ Mach M hi wr row vs c f i ∧ c ≤ maxLen ∧ Hid (AD p row f.toNat i vs = R) ∧ 0 ≤ f ∧ f ≤ 65536 ∧ MFr M wo wr
def Oj (p : List IT) (M : Nat) (wr : World) : Nat := match wr.cell? ⟨M, 8, none⟩ with
 | some (.int _ n) => p.length - n.toNat
 | _ => 0
section
variable (p : List IT) (A : Option Addr) (c : Nat) (row : VT) (fuel : Int) (r0 r1 r2 r3 r4 r5 : Value) (w : World) (hlen : p.length ≤ LIM) (hst : ∀ x ∈ p, Be x.s) (hL : Laid w) (hr : RowI w p A) (hv : RV w 0 w.heap.size row [r0, r1, r2, r3, r4, r5])
include hlen hst hL hr hv
set_option maxHeartbeats 4000000
set_option maxRecDepth 100000
theorem Ow (hp : (AL p != 0) = true) : Calls Tryz.prog 15 #[.slice A p.length c, .agg #[r0, r1, r2, r3, r4, r5], .int .i64 fuel] w (RunPost ((Am, AL p), 0) w) := by
 have hcc : ∀ (w' : World), Below w.heap.size w w' → Calls Tryz.prog 16 #[.slice A p.length c] w' (fun e w'' => e = .returned (.int .i64 (AL p)) ∧ Below w'.heap.size w' w'') := fun w' hb => Bv p A c w' hlen hst (hL.below hb) (hr.keep hb)
 have hcv := fun (w' : World) (hb : Below w.heap.size w w') => Bu row w' _ 0 w'.heap.size (hv.grow hb) (Nat.le_refl _) (hL.below hb).tabs
 obtain ⟨k, b, n, s, l, f, a1, c1, a2, c2, hre, ex, _⟩ := RV.mk_parts hv
 simp only [List.cons.injEq, and_true] at ex
 obtain ⟨rfl, rfl, rfl, rfl, rfl, rfl⟩ := ex
 have HB := Lib.hid (Aj (w := w) (.cells #[.int .u8 k, .bool b, .int .i64 n, .string s, .slice a1 l.len c1, .slice a2 f.len c2] 27) Ah)
 have hz := Ab (w.alloc (.cells #[.int .u8 k, .bool b, .int .i64 n, .string s, .slice a1 l.len c1, .slice a2 f.len c2] 27)) Ah
 have hx := Af (o := Ah) (Ab w (.cells #[.int .u8 k, .bool b, .int .i64 n, .string s, .slice a1 l.len c1, .slice a2 f.len c2] 27))
 rw [show (w.alloc (.cells #[.int .u8 k, .bool b, .int .i64 n, .string s, .slice a1 l.len c1, .slice a2 f.len c2] 27)).heap.size = w.heap.size + 1 by simp] at hz
 generalize AL p = y at *
 skip
 have HCC := Lib.hid hcc
 have HCV := Lib.hid hcv
 clear hL hr hv hst hlen hcc hcv
 go_enter Tryz.func15, Tryz.ntmps15
 go_upto_region 1 with (fail)
 generalize (w.alloc (.cells #[.int .u8 k, .bool b, .int .i64 n, .string s, .slice a1 l.len c1, .slice a2 f.len c2] 27)).alloc Ah = W at *
 have HZ := Lib.hid hz
 have HX := Lib.hid hx
 clear hz hx
 go_upto_region 3 with ((go_at_call 16; (with_reducible refine (HCC.out _ HB.out).mono ?_); rintro e w1 ⟨rfl, hb1⟩; have HB1 := Lib.hid hb1; obtain ⟨z0, z1, z2, z3, z4, z5, z6⟩ := Ae (blk hb1 HZ.out); obtain ⟨x0, x1, x2, x3, x4, x5, x6⟩ := Ae (blk hb1 HX.out); clear hb1))
 go_wp2_with fail
 refine bodyPost_ret (v := .tuple #[Bs, .int .i64 (0 : Nat), .int .i64 y]) (by simp [results, Tryz.results15, go_sem, Ai, z0, z1, z2, z3, z4, z5]) rfl ?_
 exact Pe (Ag (Nat.le_succ _) [_, _, _, _, _, _] 0 _ (Aa HB.out HB.out.size HB1.out))
theorem O0 (hp : AL p = 0) (hk : (Ao row 0 != 0) = true) : Calls Tryz.prog 15 #[.slice A p.length c, .agg #[r0, r1, r2, r3, r4, r5], .int .i64 fuel] w (RunPost ((Am, Ao row 0), 0) w) := by
 have hcc : ∀ (w' : World), Below w.heap.size w w' → Calls Tryz.prog 16 #[.slice A p.length c] w' (fun e w'' => e = .returned (.int .i64 (AL p)) ∧ Below w'.heap.size w' w'') := fun w' hb => Bv p A c w' hlen hst (hL.below hb) (hr.keep hb)
 have hcv := fun (w' : World) (hb : Below w.heap.size w w') => Bu row w' _ 0 w'.heap.size (hv.grow hb) (Nat.le_refl _) (hL.below hb).tabs
 obtain ⟨k, b, n, s, l, f, a1, c1, a2, c2, hre, ex, _⟩ := RV.mk_parts hv
 simp only [List.cons.injEq, and_true] at ex
 obtain ⟨rfl, rfl, rfl, rfl, rfl, rfl⟩ := ex
 have HB := Lib.hid (Aj (w := w) (.cells #[.int .u8 k, .bool b, .int .i64 n, .string s, .slice a1 l.len c1, .slice a2 f.len c2] 27) Ah)
 have hz := Ab (w.alloc (.cells #[.int .u8 k, .bool b, .int .i64 n, .string s, .slice a1 l.len c1, .slice a2 f.len c2] 27)) Ah
 have hx := Af (o := Ah) (Ab w (.cells #[.int .u8 k, .bool b, .int .i64 n, .string s, .slice a1 l.len c1, .slice a2 f.len c2] 27))
 rw [show (w.alloc (.cells #[.int .u8 k, .bool b, .int .i64 n, .string s, .slice a1 l.len c1, .slice a2 f.len c2] 27)).heap.size = w.heap.size + 1 by simp] at hz
 rw [hp] at hcc
 generalize Ao row 0 = y at *
 have HCC := Lib.hid hcc
 have HCV := Lib.hid hcv
 clear hL hr hv hst hlen hcc hcv
 go_enter Tryz.func15, Tryz.ntmps15
 go_upto_region 1 with (fail)
 generalize (w.alloc (.cells #[.int .u8 k, .bool b, .int .i64 n, .string s, .slice a1 l.len c1, .slice a2 f.len c2] 27)).alloc Ah = W at *
 have HZ := Lib.hid hz
 have HX := Lib.hid hx
 clear hz hx
 go_upto_region 6 with (first | (go_at_call 16; (with_reducible refine (HCC.out _ HB.out).mono ?_); rintro e w1 ⟨rfl, hb1⟩; have HB1 := Lib.hid hb1; obtain ⟨z0, z1, z2, z3, z4, z5, z6⟩ := Ae (blk hb1 HZ.out); obtain ⟨x0, x1, x2, x3, x4, x5, x6⟩ := Ae (blk hb1 HX.out); clear hb1) | (go_at_call 17; (with_reducible refine (HCV.out _ (Aa HB.out HB.out.size HB1.out)).mono ?_); rintro e w2 ⟨rfl, hb2⟩; have HB2 := Lib.hid (Aa HB1.out HB1.out.size hb2); clear z0 z1 z2 z3 z4 z5 z6 x0 x1 x2 x3 x4 x5 x6; obtain ⟨z0, z1, z2, z3, z4, z5, z6⟩ := Ae (blk HB2.out HZ.out); obtain ⟨x0, x1, x2, x3, x4, x5, x6⟩ := Ae (blk HB2.out HX.out); clear hb2))
 go_wp2_with fail
 refine bodyPost_ret (v := .tuple #[Bs, .int .i64 (0 : Nat), .int .i64 y]) (by simp [results, Tryz.results15, go_sem, Ai, z0, z1, z2, z3, z4, z5]) rfl ?_
 exact Pe (Ag (Nat.le_succ _) [_, _, _, _, _, _] 0 _ (Aa HB.out HB.out.size HB2.out))
theorem O5 (hp : AL p = 0) (hk : Ao row 0 = 0) (hf : fuel < 0) : Calls Tryz.prog 15 #[.slice A p.length c, .agg #[r0, r1, r2, r3, r4, r5], .int .i64 fuel] w (RunPost ((Am, 2), 0) w) := by
 have hcc : ∀ (w' : World), Below w.heap.size w w' → Calls Tryz.prog 16 #[.slice A p.length c] w' (fun e w'' => e = .returned (.int .i64 (AL p)) ∧ Below w'.heap.size w' w'') := fun w' hb => Bv p A c w' hlen hst (hL.below hb) (hr.keep hb)
 have hcv := fun (w' : World) (hb : Below w.heap.size w w') => Bu row w' _ 0 w'.heap.size (hv.grow hb) (Nat.le_refl _) (hL.below hb).tabs
 have d1 : decide (fuel < 0) = true := decide_eq_true hf
 obtain ⟨k, b, n, s, l, f, a1, c1, a2, c2, hre, ex, _⟩ := RV.mk_parts hv
 simp only [List.cons.injEq, and_true] at ex
 obtain ⟨rfl, rfl, rfl, rfl, rfl, rfl⟩ := ex
 have HB := Lib.hid (Aj (w := w) (.cells #[.int .u8 k, .bool b, .int .i64 n, .string s, .slice a1 l.len c1, .slice a2 f.len c2] 27) Ah)
 have hz := Ab (w.alloc (.cells #[.int .u8 k, .bool b, .int .i64 n, .string s, .slice a1 l.len c1, .slice a2 f.len c2] 27)) Ah
 have hx := Af (o := Ah) (Ab w (.cells #[.int .u8 k, .bool b, .int .i64 n, .string s, .slice a1 l.len c1, .slice a2 f.len c2] 27))
 rw [show (w.alloc (.cells #[.int .u8 k, .bool b, .int .i64 n, .string s, .slice a1 l.len c1, .slice a2 f.len c2] 27)).heap.size = w.heap.size + 1 by simp] at hz
 rw [hp] at hcc
 rw [hk] at hcv
 have HCC := Lib.hid hcc
 have HCV := Lib.hid hcv
 clear hL hr hv hst hlen hcc hcv
 go_enter Tryz.func15, Tryz.ntmps15
 go_upto_region 1 with (fail)
 generalize (w.alloc (.cells #[.int .u8 k, .bool b, .int .i64 n, .string s, .slice a1 l.len c1, .slice a2 f.len c2] 27)).alloc Ah = W at *
 have HZ := Lib.hid hz
 have HX := Lib.hid hx
 clear hz hx
 go_upto_region 8 with (first | (go_at_call 16; (with_reducible refine (HCC.out _ HB.out).mono ?_); rintro e w1 ⟨rfl, hb1⟩; have HB1 := Lib.hid hb1; obtain ⟨z0, z1, z2, z3, z4, z5, z6⟩ := Ae (blk hb1 HZ.out); obtain ⟨x0, x1, x2, x3, x4, x5, x6⟩ := Ae (blk hb1 HX.out); clear hb1) | (go_at_call 17; (with_reducible refine (HCV.out _ (Aa HB.out HB.out.size HB1.out)).mono ?_); rintro e w2 ⟨rfl, hb2⟩; have HB2 := Lib.hid (Aa HB1.out HB1.out.size hb2); clear z0 z1 z2 z3 z4 z5 z6 x0 x1 x2 x3 x4 x5 x6; obtain ⟨z0, z1, z2, z3, z4, z5, z6⟩ := Ae (blk HB2.out HZ.out); obtain ⟨x0, x1, x2, x3, x4, x5, x6⟩ := Ae (blk HB2.out HX.out); clear hb2))
 go_wp2_with fail
 refine bodyPost_ret (v := .tuple #[Bs, .int .i64 (0 : Nat), .int .i64 2]) (by simp [results, Tryz.results15, go_sem, Ai, z0, z1, z2, z3, z4, z5]) rfl ?_
 exact Pe (Ag (Nat.le_succ _) [_, _, _, _, _, _] 0 _ (Aa HB.out HB.out.size HB2.out))
theorem O6 (hp : AL p = 0) (hk : Ao row 0 = 0) (hf : 65536 < fuel) : Calls Tryz.prog 15 #[.slice A p.length c, .agg #[r0, r1, r2, r3, r4, r5], .int .i64 fuel] w (RunPost ((Am, 2), 0) w) := by
 have hcc : ∀ (w' : World), Below w.heap.size w w' → Calls Tryz.prog 16 #[.slice A p.length c] w' (fun e w'' => e = .returned (.int .i64 (AL p)) ∧ Below w'.heap.size w' w'') := fun w' hb => Bv p A c w' hlen hst (hL.below hb) (hr.keep hb)
 have hcv := fun (w' : World) (hb : Below w.heap.size w w') => Bu row w' _ 0 w'.heap.size (hv.grow hb) (Nat.le_refl _) (hL.below hb).tabs
 have d1 : decide (fuel < 0) = false := decide_eq_false (by omega)
 have d2 : decide (65536 < fuel) = true := decide_eq_true hf
 obtain ⟨k, b, n, s, l, f, a1, c1, a2, c2, hre, ex, _⟩ := RV.mk_parts hv
 simp only [List.cons.injEq, and_true] at ex
 obtain ⟨rfl, rfl, rfl, rfl, rfl, rfl⟩ := ex
 have HB := Lib.hid (Aj (w := w) (.cells #[.int .u8 k, .bool b, .int .i64 n, .string s, .slice a1 l.len c1, .slice a2 f.len c2] 27) Ah)
 have hz := Ab (w.alloc (.cells #[.int .u8 k, .bool b, .int .i64 n, .string s, .slice a1 l.len c1, .slice a2 f.len c2] 27)) Ah
 have hx := Af (o := Ah) (Ab w (.cells #[.int .u8 k, .bool b, .int .i64 n, .string s, .slice a1 l.len c1, .slice a2 f.len c2] 27))
 rw [show (w.alloc (.cells #[.int .u8 k, .bool b, .int .i64 n, .string s, .slice a1 l.len c1, .slice a2 f.len c2] 27)).heap.size = w.heap.size + 1 by simp] at hz
 rw [hp] at hcc
 rw [hk] at hcv
 have HCC := Lib.hid hcc
 have HCV := Lib.hid hcv
 clear hL hr hv hst hlen hcc hcv
 go_enter Tryz.func15, Tryz.ntmps15
 go_upto_region 1 with (fail)
 generalize (w.alloc (.cells #[.int .u8 k, .bool b, .int .i64 n, .string s, .slice a1 l.len c1, .slice a2 f.len c2] 27)).alloc Ah = W at *
 have HZ := Lib.hid hz
 have HX := Lib.hid hx
 clear hz hx
 go_upto_region 8 with (first | (go_at_call 16; (with_reducible refine (HCC.out _ HB.out).mono ?_); rintro e w1 ⟨rfl, hb1⟩; have HB1 := Lib.hid hb1; obtain ⟨z0, z1, z2, z3, z4, z5, z6⟩ := Ae (blk hb1 HZ.out); obtain ⟨x0, x1, x2, x3, x4, x5, x6⟩ := Ae (blk hb1 HX.out); clear hb1) | (go_at_call 17; (with_reducible refine (HCV.out _ (Aa HB.out HB.out.size HB1.out)).mono ?_); rintro e w2 ⟨rfl, hb2⟩; have HB2 := Lib.hid (Aa HB1.out HB1.out.size hb2); clear z0 z1 z2 z3 z4 z5 z6 x0 x1 x2 x3 x4 x5 x6; obtain ⟨z0, z1, z2, z3, z4, z5, z6⟩ := Ae (blk HB2.out HZ.out); obtain ⟨x0, x1, x2, x3, x4, x5, x6⟩ := Ae (blk HB2.out HX.out); clear hb2))
 go_wp2_with fail
 refine bodyPost_ret (v := .tuple #[Bs, .int .i64 (0 : Nat), .int .i64 2]) (by simp [results, Tryz.results15, go_sem, Ai, z0, z1, z2, z3, z4, z5]) rfl ?_
 exact Pe (Ag (Nat.le_succ _) [_, _, _, _, _, _] 0 _ (Aa HB.out HB.out.size HB2.out))
theorem OR (hp : AL p = 0) (hk : Ao row 0 = 0) (hf0 : 0 ≤ fuel) (hf1 : fuel ≤ 65536) : Calls Tryz.prog 15 #[.slice A p.length c, .agg #[r0, r1, r2, r3, r4, r5], .int .i64 fuel] w (RunPost (AD p row fuel.toNat 0 []) w) := by
 have hcc : ∀ (w' : World), Below w.heap.size w w' → Calls Tryz.prog 16 #[.slice A p.length c] w' (fun e w'' => e = .returned (.int .i64 (AL p)) ∧ Below w'.heap.size w' w'') := fun w' hb => Bv p A c w' hlen hst (hL.below hb) (hr.keep hb)
 have hcv := fun (w' : World) (hb : Below w.heap.size w w') => Bu row w' _ 0 w'.heap.size (hv.grow hb) (Nat.le_refl _) (hL.below hb).tabs
 have d1 : decide (fuel < 0) = false := decide_eq_false (by omega)
 have d2 : decide (65536 < fuel) = false := decide_eq_false (by omega)
 obtain ⟨hp1, hp2, hF, hH⟩ := Gy hp
 have HLD := Lib.hid hL
 have HST := Lib.hid hst
 have HRI := Lib.hid hr
 have HRV := Lib.hid hv
 have HH := Lib.hid hH
 obtain ⟨R, hR⟩ : ∃ R, AD p row fuel.toNat 0 [] = R := ⟨_, rfl⟩
 rw [hR]
 have HR := Lib.hid hR
 clear hR hH
 obtain ⟨k, b, n, s, l, f, a1, c1, a2, c2, hre, ex, _⟩ := RV.mk_parts hv
 simp only [List.cons.injEq, and_true] at ex
 obtain ⟨rfl, rfl, rfl, rfl, rfl, rfl⟩ := ex
 have HB := Lib.hid (Aj (w := w) (.cells #[.int .u8 k, .bool b, .int .i64 n, .string s, .slice a1 l.len c1, .slice a2 f.len c2] 27) Ah)
 have hz := Ab (w.alloc (.cells #[.int .u8 k, .bool b, .int .i64 n, .string s, .slice a1 l.len c1, .slice a2 f.len c2] 27)) Ah
 have hx := Af (o := Ah) (Ab w (.cells #[.int .u8 k, .bool b, .int .i64 n, .string s, .slice a1 l.len c1, .slice a2 f.len c2] 27))
 rw [show (w.alloc (.cells #[.int .u8 k, .bool b, .int .i64 n, .string s, .slice a1 l.len c1, .slice a2 f.len c2] 27)).heap.size = w.heap.size + 1 by simp] at hz
 rw [hp] at hcc
 rw [hk] at hcv
 have HCC := Lib.hid hcc
 have HCV := Lib.hid hcv
 clear hL hr hv hst hlen hcc hcv
 go_enter Tryz.func15, Tryz.ntmps15
 go_upto_region 1 with (fail)
 generalize (w.alloc (.cells #[.int .u8 k, .bool b, .int .i64 n, .string s, .slice a1 l.len c1, .slice a2 f.len c2] 27)).alloc Ah = W at *
 have HZ := Lib.hid hz
 have HX := Lib.hid hx
 clear hz hx
 go_upto_region 10 with (first | (go_at_call 16; (with_reducible refine (HCC.out _ HB.out).mono ?_); rintro e w1 ⟨rfl, hb1⟩; have HB1 := Lib.hid hb1; obtain ⟨z0, z1, z2, z3, z4, z5, z6⟩ := Ae (blk hb1 HZ.out); obtain ⟨x0, x1, x2, x3, x4, x5, x6⟩ := Ae (blk hb1 HX.out); clear hb1) | (go_at_call 17; (with_reducible refine (HCV.out _ (Aa HB.out HB.out.size HB1.out)).mono ?_); rintro e w2 ⟨rfl, hb2⟩; have HB2 := Lib.hid (Aa HB1.out HB1.out.size hb2); clear z0 z1 z2 z3 z4 z5 z6 x0 x1 x2 x3 x4 x5 x6; obtain ⟨z0, z1, z2, z3, z4, z5, z6⟩ := Ae (blk HB2.out HZ.out); obtain ⟨x0, x1, x2, x3, x4, x5, x6⟩ := Ae (blk HB2.out HX.out); clear hb2))
 have hw2 := Aa HB.out HB.out.size HB2.out
 obtain ⟨M, hMe⟩ : ∃ M, w2.heap.size = M := ⟨_, rfl⟩
 have hbm := Ad (w := w2) (.cells #[.slice none 0 0, .int .u8 k, .bool b, .int .i64 n, .string s, .slice a1 l.len c1, .slice a2 f.len c2, .int .i64 fuel, .int .i64 0] 78)
 have hwm := Aa hw2 hw2.size hbm
 have hlm := Ab w2 (.cells #[.slice none 0 0, .int .u8 k, .bool b, .int .i64 n, .string s, .slice a1 l.len c1, .slice a2 f.len c2, .int .i64 fuel, .int .i64 0] 78)
 have hsm : (w2.alloc (.cells #[.slice none 0 0, .int .u8 k, .bool b, .int .i64 n, .string s, .slice a1 l.len c1, .slice a2 f.len c2, .int .i64 fuel, .int .i64 0] 78)).heap.size = w2.heap.size + 1 := by simp
 have hma : Mach M (M + 1) (w2.alloc (.cells #[.slice none 0 0, .int .u8 k, .bool b, .int .i64 n, .string s, .slice a1 l.len c1, .slice a2 f.len c2, .int .i64 fuel, .int .i64 0] 78)) row [] 0 fuel 0 := ⟨none, _, _, _, _, _, _, by rw [← hMe]; exact hlm, RV.keep (Same.of_below hwm) (Nat.le_refl _) (by rw [← hMe]; exact hw2.size) _ _ HRV.out, Nat.le_refl _, by rw [hsm, hMe]; exact Nat.le_refl _, Or.inl ⟨rfl, rfl, rfl⟩⟩
 rw [hMe] at hsm
 rw [hMe]
 have hzm := blk hbm (blk HB2.out HZ.out)
 generalize w2.alloc (.cells #[.slice none 0 0, .int .u8 k, .bool b, .int .i64 n, .string s, .slice a1 l.len c1, .slice a2 f.len c2, .int .i64 fuel, .int .i64 0] 78) = wm at *
 have HMA := Lib.hid (hma.keep (Ad (.map EX 5)))
 have HWM := Lib.hid (Aa hwm hwm.size (Ad (.map EX 5)))
 have hom := Ab wm (.map EX 5)
 rw [hsm] at hom
 have HOM := Lib.hid hom
 clear hom
 have HZM := Lib.hid (Af (o := .map EX 5) hzm)
 have hwM : w.heap.size + 1 < M := by have := lt_of_block (blk HB2.out HZ.out); omega
 have hmM : M < wm.heap.size := by omega
 clear hw2 hMe hbm hwm hlm hma hzm HB HB1 HB2 HZ HX HCC HCV z0 z1 z2 z3 z4 z5 z6 x0 x1 x2 x3 x4 x5 x6 d1 d2 hp hk hre HRV
 go_wp2_with (go_at_call 32; (with_reducible refine (Oi _).mono ?_); rintro e wo ⟨rfl, hwo⟩; subst hwo)
 have hso : (wm.alloc (.map EX 5)).heap.size = wm.heap.size + 1 := by simp
 generalize wm.alloc (.map EX 5) = wo at *
 go_loopw [14] (fun _ wr => BB p hF row M wo R wr) (fun _ wr => Oj p M wr)
 case atStart => exact ⟨0, [], fuel, M + 1, 0, Dx HH.out, HMA.out, Nat.zero_le _, HR, hf0, hf1, MFr.refl M wo⟩
 case round =>
  obtain ⟨i, vs, fu, hi, cp, hat, hm, hcp, HRG, hu0, hu1, hmf⟩ := hrel
  have HAT := Lib.hid hat
  have HM := Lib.hid hm
  have HMF := Lib.hid hmf
  have HCP := Lib.hid hcp
  obtain ⟨y7, y8, y9⟩ := hm.cells
  have HRL : Hid (Oj p M wr = p.length - i) := Lib.hid (by unfold Oj; rw [y8]; simp)
  have hile := hat.2.1
  clear hat hm hmf hcp HMA HR
  by_cases hlt : i < p.length
  · have q1 : decide ((i : Int) < (p.length : Int)) = true := decide_eq_true (by omega)
    by_cases hu : fu = 0
    · subst hu
      have hRR := HRG.out
      rw [show ((0 : Int)).toNat = 0 by rfl, AD, if_pos hlt] at hRR
      have HRR := Lib.hid hRR
      clear hRR
      obtain ⟨z0, z1, z2, z3, z4, z5, z6⟩ := Ae (HMF.out.blk (by omega) HZM.out)
      go_wp2_with fail
      refine bodyPost_ret (v := .tuple #[Bs, .int .i64 (0 : Nat), .int .i64 16]) (by simp [results, Tryz.results15, go_sem, Ai, z0, z1, z2, z3, z4, z5]) rfl ?_
      rw [← HRR.out]
      exact Pe (Ag (Nat.le_succ _) [_, _, _, _, _, _] 0 _ (HWM.out.trans (MFr.below HMF.out (by omega) (by omega))))
    · have hu2 : (fu == 0) = false := by simpa using hu
      have w1 : IntKind.i64.wrap (fu - 1) = fu - 1 := IntWalk.i64_in _ (by omega)
      go_upto_region 15 with (fail)
      have hse := HM.out.setM (fu - 1)
      have hma := hse.2
      have hfa : MFr M wo (wr.setCell ⟨M, 7, none⟩ (.int .i64 (fu - 1))) := HMF.out.cellM
      generalize wr.setCell ⟨M, 7, none⟩ (.int .i64 (fu - 1)) = wa at *
      obtain ⟨y7, y8, y9⟩ := hma.cells
      have hwa := HWM.out.trans (MFr.below hfa (B := w.heap.size) (by omega) (by omega))
      have hri := RowI.keep HRI.out hwa
      rcases hri with h0 | ⟨bp, op', rfl, hin⟩
      · omega
      obtain ⟨j0, j1, j2, j3, j4⟩ := hin i hlt
      have hbx := Ad (w := wa) (BK p[i])
      have hxx := Ab wa (BK p[i])
      have hmb := hma.keep hbx
      have hfb := hfa.trans (MFr.of_below hbx)
      have hib0 : (0 : Int) ≤ (i : Int) := by omega
      have hib1 : (i : Int) < (p.length : Int) := by omega
      go_upto_region 16 with (fail)
      clear j0 j1 j2 j3 j4 hin y7 y8 y9 w1 hse
      generalize wa.alloc (BK p[i]) = wb at *
      obtain ⟨y7, y8, y9⟩ := hmb.cells
      have w2 : IntKind.i64.wrap ((i : Int) + 1) = (i : Int) + 1 := IntWalk.i64_in _ (by omega)
      have hlw : wa.heap.size ≠ M := by have := hma.lt; omega
      go_upto_region 17 with (fail)
      have hmc := (hmb.setM ((i : Int) + 1)).1
      have hfc : MFr M wo (wb.setCell ⟨M, 8, none⟩ (.int .i64 ((i : Int) + 1))) := hfb.cellM
      have hxc := ((MFr.refl M wb).cellM (v := .int .i64 ((i : Int) + 1)) (o := 8)).blk hlw hxx
      generalize wb.setCell ⟨M, 8, none⟩ (.int .i64 ((i : Int) + 1)) = wc at *
      obtain ⟨x0, x1, x2, x3, x4⟩ := AF hxc
      have hwc := HWM.out.trans (MFr.below hfc (B := w.heap.size) (by omega) (by omega))
      obtain ⟨nf, hnf, hcf, hcl⟩ := GO p hF i vs HH.out hp2 HAT.out hlt HST.out M hi row cp (fu - 1) wc w hmc HCP.out HLD.out hwc (by omega)
      have hlk := Oy (hfc.blk (by omega) HOM.out) p[i].op nf hnf
      obtain ⟨j, hj1, hj2, hj3⟩ := CY HH.out HAT.out hlt row (fun s h => (Bn s h).1)
      have hRR := HRG.out
      rw [show fu.toNat = (fu - 1).toNat + 1 by omega, AD, dif_pos hlt] at hRR
      generalize opR row p[i] vs ((i : Int) + 1) = q at *
      obtain ⟨why, vs', nx'⟩ := q
      dsimp only at hcl hj1 hj3 hRR
      subst hj1
      rw [Int.toNat_natCast] at hRR
      have HCL := Lib.hid hcl
      have HFC := Lib.hid hfc
      have HJ3 := Lib.hid hj3
      have HJ2 := Lib.hid hj2
      have HNF := Lib.hid hnf
      clear hcl hj3 hj2 hnf hmc hmb hma hxx hxc hbx hwa hfa hfb hwc hfc y7 y8 y9 hib0 hib1 HAT HM HRG
      by_cases hy : why = 0
      · subst hy
        have hyd : ((0 : Int) != 0) = false := rfl
        rw [if_neg (by simp)] at hRR
        have HRR := Lib.hid hRR
        clear hRR
        go_wp2_with ((with_reducible refine (HCL.out).mono ?_); rintro e w7 ⟨rfl, hi7, c7, hc7, hm7, hf7⟩; have HC7 := Lib.hid hc7; have HM7 := Lib.hid hm7; have HF7 := Lib.hid hf7; clear hc7 hm7 hf7)
        go_roundw
        case rel => exact ⟨j, vs', fu - 1, hi7, c7, HJ3.out, HM7.out, HC7.out, HRR, by omega, by omega, HFC.out.trans HF7.out⟩
        case measure =>
         have e7 : Oj p M w7 = p.length - j := by unfold Oj; rw [HM7.out.cells.2.1]; simp
         have := HRL.out
         have := HJ2.out
         omega
      · have hyd : (why != 0) = true := by simpa using hy
        rw [if_pos hy] at hRR
        have HRR := Lib.hid hRR
        clear hRR
        go_upto_region 19 with ((with_reducible refine (HCL.out).mono ?_); rintro e w7 ⟨rfl, hi7, c7, hc7, hm7, hf7⟩; have HM7 := Lib.hid hm7; have HF7 := Lib.hid (HFC.out.trans hf7); clear hc7 hm7 hf7)
        obtain ⟨z0, z1, z2, z3, z4, z5, z6⟩ := Ae (HF7.out.blk (by omega) HZM.out)
        obtain ⟨y7, y8, y9⟩ := HM7.out.cells
        go_region_with fail
        all_goals (go_wp2_with fail)
        all_goals (refine bodyPost_ret (v := .tuple #[Bs, .int .i64 (fu - 1), .int .i64 why]) (by simp [results, Tryz.results15, go_sem, Ai, z0, z1, z2, z3, z4, z5]) rfl ?_)
        all_goals (rw [← HRR.out])
        all_goals (have hbz := HWM.out.trans (MFr.below HF7.out (B := w.heap.size) (by omega) (by omega)))
        all_goals (have hbs := Ag (B := w.heap.size) (a := w) (g := w.heap.size + 1) (Nat.le_succ _) [.int .u8 0, .bool false, .int .i64 0, .string ⟨#[]⟩, .slice none 0 0, .slice none 0 0] 0 _ hbz)
        all_goals (first | exact Pf (by omega) hbs.drew | exact Pf (by omega) hbs | exact Pf (by omega) (Ag (B := w.heap.size) (a := w) (g := w.heap.size + 1) (Nat.le_succ _) [.int .u8 0, .bool false, .int .i64 0, .string ⟨#[]⟩, .slice none 0 0, .slice none 0 0] 0 _ hbz.drew))
  · have q1 : decide ((i : Int) < (p.length : Int)) = false := decide_eq_false (by omega)
    have hie : i = p.length := by omega
    have hvl : vs.length = 1 := by
      have h1 := HAT.out.1
      have h2 := HH.out.2.1
      rw [hie, h2] at h1
      have := Option.some.inj h1
      omega
    have hRR := HRG.out
    rw [NZ hlt] at hRR
    have hwr := HWM.out.trans (MFr.below HMF.out (B := w.heap.size) (by omega) (by omega))
    have ht := EP M hi row vs cp fu i wr HM.out (by omega) (by omega)
    unfold Mb at ht
    generalize Bz vs = tt at *
    obtain ⟨kt, bt, nt, st, lt, ft⟩ := tt
    have HT := Lib.hid ht
    have HRR := Lib.hid hRR
    have HWR := Lib.hid hwr
    have hzr := HMF.out.blk (by omega) HZM.out
    have HZR := Lib.hid hzr
    clear ht hRR hwr hzr HRG HAT hvl
    go_upto_region 21 with (first | (go_at_call 34; (with_reducible refine (HT.out).mono ?_); rintro e w7 ⟨v0, v1, v2, v3, v4, v5, rfl, hv7, hb7⟩; have HB7 := Lib.hid hb7; have HOW := Lib.hid (Mw _ _ _ _ _ _ _ w7 (HLD.out.below (Aa HWR.out HWR.out.size hb7)) hv7.any); clear hv7 hb7) | (go_at_call 33; (with_reducible refine (HOW.out).mono ?_); intro e w8 hev; obtain ⟨hb8, e1, d1, e2, d2, rfl, hv8⟩ := hev.parts; have HB8 := Lib.hid (Aa HB7.out HB7.out.size hb8); have HS7 := Lib.hid HB7.out.size; have HV8 := Lib.hid hv8; clear hev hb8 hv8))
    have hbx := Ad (w := w8) (.cells #[.int .u8 kt, .bool bt, .int .i64 nt, .string st, .slice e1 lt.len d1, .slice e2 ft.len d2] 27)
    have hxx := Ab w8 (.cells #[.int .u8 kt, .bool bt, .int .i64 nt, .string st, .slice e1 lt.len d1, .slice e2 ft.len d2] 27)
    have hb9 := Aa HB8.out HB8.out.size hbx
    have hz9 := blk hb9 HZR.out
    have hv9 := RV.keep (Same.of_below hbx) (Nat.le_refl _) hbx.size _ _ HV8.out
    have hw9 := HM.out.keep hb9
    have hws := HWR.out.size
    have hs7 := HS7.out
    have hzs := lt_of_block HZR.out
    have hw9b := Aa HWR.out HWR.out.size hb9
    clear y7 y8 y9
    generalize w8.alloc (.cells #[.int .u8 kt, .bool bt, .int .i64 nt, .string st, .slice e1 lt.len d1, .slice e2 ft.len d2] 27) = w9 at *
    obtain ⟨y7, y8, y9⟩ := hw9.cells
    obtain ⟨x0, x1, x2, x3, x4, x5, x6⟩ := Ae hxx
    obtain ⟨z0, z1, z2, z3, z4, z5, z6⟩ := Ae hz9
    have HV9 := Lib.hid hv9
    have HW9 := Lib.hid hw9b
    clear hv9 hw9 hz9 hxx hbx hb9 hw9b
    go_region_with fail
    all_goals (go_wp2_with fail)
    all_goals (refine bodyPost_ret (v := .tuple #[.agg #[.int .u8 kt, .bool bt, .int .i64 nt, .string st, .slice e1 lt.len d1, .slice e2 ft.len d2], .int .i64 fu, .int .i64 0]) (by simp [results, Tryz.results15, go_sem, Ai, z0, z1, z2, z3, z4, z5]) rfl ?_)
    all_goals (rw [← HRR.out])
    all_goals (exact OE (y := 0) (x := fu) (n := fu.toNat) (by omega) HW9.out (by omega) (Nat.le_trans hws hs7) HV9.out)
theorem O7 : Calls Tryz.prog 15 #[.slice A p.length c, .agg #[r0, r1, r2, r3, r4, r5], .int .i64 fuel] w (RunPost (BC p row fuel) w) := by
 unfold BC
 by_cases h1 : AL p = 0
 · rw [if_neg (fun h => h h1)]
   by_cases h2 : Ao row 0 = 0
   · rw [if_neg (fun h => h h2)]
     by_cases h3 : fuel < 0 ∨ 65536 < fuel
     · rw [if_pos h3]
       rcases h3 with h3 | h3
       · exact O5 p A c row fuel r0 r1 r2 r3 r4 r5 w hlen hst hL hr hv h1 h2 h3
       · exact O6 p A c row fuel r0 r1 r2 r3 r4 r5 w hlen hst hL hr hv h1 h2 h3
     · rw [if_neg h3]
       exact OR p A c row fuel r0 r1 r2 r3 r4 r5 w hlen hst hL hr hv h1 h2 (by omega) (by omega)
   · rw [if_pos h2]
     exact O0 p A c row fuel r0 r1 r2 r3 r4 r5 w hlen hst hL hr hv h1 (by simpa using h2)
 · rw [if_pos h1]
   exact Ow p A c row fuel r0 r1 r2 r3 r4 r5 w hlen hst hL hr hv (by simpa using h1)
end
/- vm.Holds. -/
set_option maxHeartbeats 4000000 in
set_option maxRecDepth 100000 in
theorem S5 (p : List IT) (A : Option Addr) (c : Nat) (row : VT) (fuel : Int) (r0 r1 r2 r3 r4 r5 : Value) (w : World) (hlen : p.length ≤ LIM) (hst : ∀ x ∈ p, Be x.s) (hL : Laid w) (hr : RowI w p A) (hv : RV w 0 w.heap.size row [r0, r1, r2, r3, r4, r5]) :
   Calls Tryz.prog 19 #[.slice A p.length c, .agg #[r0, r1, r2, r3, r4, r5], .int .i64 fuel] w fun e w' => e = .returned (.tuple #[.bool (Dk p row fuel).1, .int .i64 (Dk p row fuel).2.1, .int .i64 (Dk p row fuel).2.2]) ∧ Below w.heap.size w w' := by
 have hrun := fun (w' : World) (hb : Below w.heap.size w w') => O7 p A c row fuel r0 r1 r2 r3 r4 r5 w' hlen hst (hL.below hb) (hr.keep hb) (hv.grow hb)
 unfold Dk
 unfold RunPost at hrun
 generalize BC p row fuel = R at *
 obtain ⟨⟨t, y⟩, nl⟩ := R
 obtain ⟨kt, bt, nt, st, lt, ft⟩ := t
 have HRUN := Lib.hid hrun
 obtain ⟨k, b, n, s, l, f, a1, c1, a2, c2, hre, ex, _⟩ := RV.mk_parts hv
 simp only [List.cons.injEq, and_true] at ex
 obtain ⟨rfl, rfl, rfl, rfl, rfl, rfl⟩ := ex
 obtain ⟨q, hq⟩ : ∃ q : Bool × Nat × Int, (if y = 0 ∧ 1 < (VT.mk kt bt nt st lt ft).kind then (false, nl, 5) else (decide (y = 0) && (VT.mk kt bt nt st lt ft).bool, nl, y)) = q := ⟨_, rfl⟩
 dsimp only
 rw [hq]
 have HQ := Lib.hid hq
 have HB := Lib.hid (Ad (w := w) (.cells #[.int .u8 k, .bool b, .int .i64 n, .string s, .slice a1 l.len c1, .slice a2 f.len c2] 27))
 have hx := Ab w (.cells #[.int .u8 k, .bool b, .int .i64 n, .string s, .slice a1 l.len c1, .slice a2 f.len c2] 27)
 clear hrun hlen hst hL hr hv hq
 go_enter Tryz.func19, Tryz.ntmps19
 go_upto_region 1 with (fail)
 generalize w.alloc (.cells #[.int .u8 k, .bool b, .int .i64 n, .string s, .slice a1 l.len c1, .slice a2 f.len c2] 27) = W at *
 obtain ⟨x0, x1, x2, x3, x4, x5, x6⟩ := Ae hx
 clear hx
 go_upto_region 2 with (go_at_call 15; (with_reducible refine (HRUN.out _ HB.out).mono ?_); rintro e w1 ⟨hb1, v0, v1, v2, v3, v4, v5, rfl, hv1⟩; obtain ⟨kx, bx, nx, sx, lx, fx, e1, d1, e2, d2, hxe, ex, _⟩ := RV.mk_parts hv1; cases hxe; simp only [List.cons.injEq, and_true] at ex; obtain ⟨rfl, rfl, rfl, rfl, rfl, rfl⟩ := ex; have HB1 := Lib.hid hb1; have HV1 := Lib.hid hv1; clear hb1 hv1)
 have hbx := Ad (w := w1) (.cells #[.int .u8 kt, .bool bt, .int .i64 nt, .string st, .slice e1 lt.len d1, .slice e2 ft.len d2] 27)
 have hxx := Ab w1 (.cells #[.int .u8 kt, .bool bt, .int .i64 nt, .string st, .slice e1 lt.len d1, .slice e2 ft.len d2] 27)
 have hv2 := RV.keep (Same.of_below hbx) (Nat.zero_le _) hbx.size _ _ HV1.out
 have hb2 := Aa HB.out HB.out.size (Aa HB1.out HB1.out.size hbx)
 clear x0 x1 x2 x3 x4 x5 x6
 generalize w1.alloc (.cells #[.int .u8 kt, .bool bt, .int .i64 nt, .string st, .slice e1 lt.len d1, .slice e2 ft.len d2] 27) = w2 at *
 have HFL := Lib.hid (Bo _ _ _ _ _ _ _ _ hv2)
 have HX2 := Lib.hid hxx
 have HB2 := Lib.hid hb2
 obtain ⟨z0, z1, z2, z3, z4, z5, z6⟩ := Ae hxx
 clear hbx hxx hv2 hb2
 by_cases hy : y = 0
 · subst hy
   by_cases hk : 1 < kt
   · have hfe : Bf (.mk kt bt nt st lt ft) = 5 := if_pos hk
     rw [hfe] at HFL
     have HQ2 : Hid (q = (false, nl, 5)) := Lib.hid (by rw [← HQ.out]; exact if_pos ⟨rfl, hk⟩)
     clear hfe hk
     go_wp2_with (go_at_call 37; (with_reducible refine (HFL.out).mono ?_); rintro e w3 ⟨rfl, hb3⟩; have HB3 := Lib.hid hb3; clear z0 z1 z2 z3 z4 z5 z6; obtain ⟨z0, z1, z2, z3, z4, z5, z6⟩ := Ae (blk hb3 HX2.out); clear hb3)
     refine bodyPost_ret (v := .tuple #[.bool false, .int .i64 nl, .int .i64 5]) (by simp [results, Tryz.results19, go_sem]) rfl ?_
     rw [HQ2.out]
     exact ⟨rfl, Aa HB2.out HB2.out.size HB3.out⟩
   · have hfe : Bf (.mk kt bt nt st lt ft) = 0 := if_neg hk
     rw [hfe] at HFL
     have HQ2 : Hid (q = (bt, nl, 0)) := Lib.hid (by rw [← HQ.out, if_neg (fun h => hk h.2)]; rfl)
     clear hfe hk
     go_wp2_with (go_at_call 37; (with_reducible refine (HFL.out).mono ?_); rintro e w3 ⟨rfl, hb3⟩; have HB3 := Lib.hid hb3; clear z0 z1 z2 z3 z4 z5 z6; obtain ⟨z0, z1, z2, z3, z4, z5, z6⟩ := Ae (blk hb3 HX2.out); clear hb3)
     refine bodyPost_ret (v := .tuple #[.bool bt, .int .i64 nl, .int .i64 0]) (by simp [results, Tryz.results19, go_sem]) rfl ?_
     rw [HQ2.out]
     exact ⟨rfl, Aa HB2.out HB2.out.size HB3.out⟩
 · have hyd : (y == 0) = false := by simpa using hy
   have HQ2 : Hid (q = (false, nl, y)) := Lib.hid (by rw [← HQ.out, if_neg (fun h => hy h.1), decide_eq_false hy]; rfl)
   clear hy
   go_wp2_with fail
   refine bodyPost_ret (v := .tuple #[.bool false, .int .i64 nl, .int .i64 y]) (by simp [results, Tryz.results19, go_sem]) rfl ?_
   rw [HQ2.out]
   exact ⟨rfl, HB2.out⟩
end Go.Proofs.YtbemgcjckchdjaaGreatDoor
