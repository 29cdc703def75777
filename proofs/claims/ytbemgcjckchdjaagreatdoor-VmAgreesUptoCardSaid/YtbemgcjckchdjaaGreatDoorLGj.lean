import Derived.Test.YtbemgcjckchdjaaGreatDoorLCl
import Derived.Test.YtbemgcjckchdjaaGreatDoorLCk
import Derived.Test.YtbemgcjckchdjaaGreatDoorLGa
/- vm.Run. -/
namespace Go.Proofs.YtbemgcjckchdjaaGreatDoor
open Go.RowKit
set_option linter.unusedSimpArgs false
set_option linter.unusedVariables false
def RunPost (R : Rz × Nat) (w : World) (e : Ending) (w' : World) : Prop :=
 Below w.heap.size w w' ∧ ∃ v0 v1 v2 v3 v4 v5, e = .returned (.tuple #[.agg #[v0, v1, v2, v3, v4, v5], .int .i64 R.2, .int .i64 R.1.2]) ∧ RV w' w.heap.size w'.heap.size R.1.1 [v0, v1, v2, v3, v4, v5]
theorem D1 {w w' : World} {n : Nat} {y : Int} (hb : Below w.heap.size w w') : RunPost ((Am, y), n) w (.returned (.tuple #[Bs, .int .i64 n, .int .i64 y])) w' := by
 have h : EvPost w (Am, y) (.returned (.tuple #[Bs, .int .i64 y])) w' := Bx hb
 obtain ⟨h1, v0, v1, v2, v3, v4, v5, e, h2⟩ := h
 refine ⟨h1, _, _, _, _, _, _, rfl, ?_⟩
 cases e
 exact h2
theorem Gt {w w' : World} {n : Nat} {x y : Int} (hx : x = (n : Int)) (hb : Below w.heap.size w w') : RunPost ((Am, y), n) w (.returned (.tuple #[Bs, .int .i64 x, .int .i64 y])) w' := by
 subst hx
 exact D1 hb
theorem RA {w : World} {lo : Nat} {t : VT} {cs : List Value} (h : RV w lo w.heap.size t cs) : RV w.drew lo w.drew.heap.size t cs :=
 RV.keep (Same.of_below (Below.drew (Below.refl w.heap.size w))) (Nat.le_refl _) (Nat.le_refl _) _ _ h
theorem R9 {w w9 : World} {lo n : Nat} {y x : Int} {t : VT} {v0 v1 v2 v3 v4 v5 : Value} (hx : x = (n : Int)) (hb : Below w.heap.size w w9) (hg : w.heap.size + 1 < lo) (hl : w.heap.size ≤ lo) (hv : RV w9 lo w9.heap.size t [v0, v1, v2, v3, v4, v5]) :
  RunPost ((t, y), n) w (.returned (.tuple #[.agg #[v0, v1, v2, v3, v4, v5], .int .i64 x, .int .i64 y])) (w9.setCells (w.heap.size + 1) 0 [v0, v1, v2, v3, v4, v5]).drew := by
 subst hx
 have h1 := Ag (B := w.heap.size) (a := w) (g := w.heap.size + 1) (Nat.le_succ _) [v0, v1, v2, v3, v4, v5] 0 _ hb
 have h3 := RV.above (lo' := w.heap.size) (o := 0) (us := [v0, v1, v2, v3, v4, v5]) hv hg hl (Below.refl _ _)
 generalize w9.setCells (w.heap.size + 1) 0 [v0, v1, v2, v3, v4, v5] = X at *
 exact ⟨h1.drew, v0, v1, v2, v3, v4, v5, rfl, RA h3⟩
theorem Qb {p : List IT} {row : VT} {i : Nat} (hi : ¬ i < p.length) (vs : List VT) : ∀ f : Nat, AD p row f i vs = ((Bz vs, 0), f)
 | 0 => by rw [AD, if_neg hi]
 | f + 1 => by rw [AD, dif_neg hi]
def SG (p : List IT) (hF : HT) (row : VT) (M : Nat) (wo : World) (R : Rz × Nat) (wr : World) : Prop :=
 ∃ (i : Nat) (vs : List VT) (f : Int) (hi c : Nat), At p hF i vs ∧ Mach M hi wr row vs c f i ∧ c ≤ maxLen ∧ Hid (AD p row f.toNat i vs = R) ∧ 0 ≤ f ∧ f ≤ 65536 ∧ MFr M wo wr
def Fj (p : List IT) (M : Nat) (wr : World) : Nat := match wr.cell? ⟨M, 8, none⟩ with
 | some (.int _ n) => p.length - n.toNat
 | _ => 0
section
variable (p : List IT) (A : Option Addr) (c : Nat) (row : VT) (fuel : Int) (r0 r1 r2 r3 r4 r5 : Value) (w : World) (hlen : p.length ≤ LIM) (hst : ∀ x ∈ p, Be x.s) (hL : Laid w) (hr : RowI w p A) (hv : RV w 0 w.heap.size row [r0, r1, r2, r3, r4, r5])
include hlen hst hL hr hv
set_option maxHeartbeats 4000000
set_option maxRecDepth 100000
theorem S5 (hp : (AL p != 0) = true) : Calls Tryz.prog 15 #[.slice A p.length c, .agg #[r0, r1, r2, r3, r4, r5], .int .i64 fuel] w (RunPost ((Am, AL p), 0) w) := by
 have hcc : ∀ (w' : World), Below w.heap.size w w' → Calls Tryz.prog 16 #[.slice A p.length c] w' (fun e w'' => e = .returned (.int .i64 (AL p)) ∧ Below w'.heap.size w' w'') := fun w' hb => Bv p A c w' hlen hst (hL.below hb) (hr.keep hb)
 have hcv := fun (w' : World) (hb : Below w.heap.size w w') => Bu row w' _ 0 w'.heap.size (hv.grow hb) (Nat.le_refl _) (hL.below hb).tabs
 obtain ⟨k, b, n, s, l, f, a1, c1, a2, c2, hre, ex, _⟩ := RV.mk_parts hv
 simp only [List.cons.injEq, and_true] at ex
 obtain ⟨rfl, rfl, rfl, rfl, rfl, rfl⟩ := ex
 have HB := Lib.hid (Aj (w := w) (.cells #[.int .u8 k, .bool b, .int .i64 n, .string s, .slice a1 l.len c1, .slice a2 f.len c2] 27) Ah)
 have hz := Ab (w.alloc (.cells #[.int .u8 k, .bool b, .int .i64 n, .string s, .slice a1 l.len c1, .slice a2 f.len c2] 27)) Ah
 have hx := Af (o := Ah) (Ab w (.cells #[.int .u8 k, .bool b, .int .i64 n, .string s, .slice a1 l.len c1, .slice a2 f.len c2] 27))
 rw [show (w.alloc (.cells #[.int .u8 k, .bool b, .int .i64 n, .string s, .slice a1 l.len c1, .slice a2 f.len c2] 27)).heap.size = w.heap.size + 1 by simp] at hz
 generalize AL p = y at *
 skip
 have HCC := Lib.hid hcc
 have HCV := Lib.hid hcv
 clear hL hr hv hst hlen hcc hcv
 go_enter Tryz.func15, Tryz.ntmps15
 go_upto_region 1 with (fail)
 generalize (w.alloc (.cells #[.int .u8 k, .bool b, .int .i64 n, .string s, .slice a1 l.len c1, .slice a2 f.len c2] 27)).alloc Ah = W at *
 have HZ := Lib.hid hz
 have HX := Lib.hid hx
 clear hz hx
 go_upto_region 3 with ((go_at_call 16; (with_reducible refine (HCC.out _ HB.out).mono ?_); rintro e w1 ⟨rfl, hb1⟩; have HB1 := Lib.hid hb1; obtain ⟨z0, z1, z2, z3, z4, z5, z6⟩ := Ae (blk hb1 HZ.out); obtain ⟨x0, x1, x2, x3, x4, x5, x6⟩ := Ae (blk hb1 HX.out); clear hb1))
 go_wp2_with fail
 refine bodyPost_ret (v := .tuple #[Bs, .int .i64 (0 : Nat), .int .i64 y]) (by simp [results, Tryz.results15, go_sem, Ai, z0, z1, z2, z3, z4, z5]) rfl ?_
 exact D1 (Ag (Nat.le_succ _) [_, _, _, _, _, _] 0 _ (Aa HB.out HB.out.size HB1.out))
theorem S6 (hp : AL p = 0) (hk : (Ao row 0 != 0) = true) : Calls Tryz.prog 15 #[.slice A p.length c, .agg #[r0, r1, r2, r3, r4, r5], .int .i64 fuel] w (RunPost ((Am, Ao row 0), 0) w) := by
 have hcc : ∀ (w' : World), Below w.heap.size w w' → Calls Tryz.prog 16 #[.slice A p.length c] w' (fun e w'' => e = .returned (.int .i64 (AL p)) ∧ Below w'.heap.size w' w'') := fun w' hb => Bv p A c w' hlen hst (hL.below hb) (hr.keep hb)
 have hcv := fun (w' : World) (hb : Below w.heap.size w w') => Bu row w' _ 0 w'.heap.size (hv.grow hb) (Nat.le_refl _) (hL.below hb).tabs
 obtain ⟨k, b, n, s, l, f, a1, c1, a2, c2, hre, ex, _⟩ := RV.mk_parts hv
 simp only [List.cons.injEq, and_true] at ex
 obtain ⟨rfl, rfl, rfl, rfl, rfl, rfl⟩ := ex
 have HB := Lib.hid (Aj (w := w) (.cells #[.int .u8 k, .bool b, .int .i64 n, .string s, .slice a1 l.len c1, .slice a2 f.len c2] 27) Ah)
 have hz := Ab (w.alloc (.cells #[.int .u8 k, .bool b, .int .i64 n, .string s, .slice a1 l.len c1, .slice a2 f.len c2] 27)) Ah
 have hx := Af (o := Ah) (Ab w (.cells #[.int .u8 k, .bool b, .int .i64 n, .string s, .slice a1 l.len c1, .slice a2 f.len c2] 27))
 rw [show (w.alloc (.cells #[.int .u8 k, .bool b, .int .i64 n, .string s, .slice a1 l.len c1, .slice a2 f.len c2] 27)).heap.size = w.heap.size + 1 by simp] at hz
 rw [hp] at hcc
 generalize Ao row 0 = y at *
 have HCC := Lib.hid hcc
 have HCV := Lib.hid hcv
 clear hL hr hv hst hlen hcc hcv
 go_enter Tryz.func15, Tryz.ntmps15
 go_upto_region 1 with (fail)
 generalize (w.alloc (.cells #[.int .u8 k, .bool b, .int .i64 n, .string s, .slice a1 l.len c1, .slice a2 f.len c2] 27)).alloc Ah = W at *
 have HZ := Lib.hid hz
 have HX := Lib.hid hx
 clear hz hx
 go_upto_region 6 with (first | (go_at_call 16; (with_reducible refine (HCC.out _ HB.out).mono ?_); rintro e w1 ⟨rfl, hb1⟩; have HB1 := Lib.hid hb1; obtain ⟨z0, z1, z2, z3, z4, z5, z6⟩ := Ae (blk hb1 HZ.out); obtain ⟨x0, x1, x2, x3, x4, x5, x6⟩ := Ae (blk hb1 HX.out); clear hb1) | (go_at_call 17; (with_reducible refine (HCV.out _ (Aa HB.out HB.out.size HB1.out)).mono ?_); rintro e w2 ⟨rfl, hb2⟩; have HB2 := Lib.hid (Aa HB1.out HB1.out.size hb2); clear z0 z1 z2 z3 z4 z5 z6 x0 x1 x2 x3 x4 x5 x6; obtain ⟨z0, z1, z2, z3, z4, z5, z6⟩ := Ae (blk HB2.out HZ.out); obtain ⟨x0, x1, x2, x3, x4, x5, x6⟩ := Ae (blk HB2.out HX.out); clear hb2))
 go_wp2_with fail
 refine bodyPost_ret (v := .tuple #[Bs, .int .i64 (0 : Nat), .int .i64 y]) (by simp [results, Tryz.results15, go_sem, Ai, z0, z1, z2, z3, z4, z5]) rfl ?_
 exact D1 (Ag (Nat.le_succ _) [_, _, _, _, _, _] 0 _ (Aa HB.out HB.out.size HB2.out))
theorem S7 (hp : AL p = 0) (hk : Ao row 0 = 0) (hf : fuel < 0) : Calls Tryz.prog 15 #[.slice A p.length c, .agg #[r0, r1, r2, r3, r4, r5], .int .i64 fuel] w (RunPost ((Am, 2), 0) w) := by
 have hcc : ∀ (w' : World), Below w.heap.size w w' → Calls Tryz.prog 16 #[.slice A p.length c] w' (fun e w'' => e = .returned (.int .i64 (AL p)) ∧ Below w'.heap.size w' w'') := fun w' hb => Bv p A c w' hlen hst (hL.below hb) (hr.keep hb)
 have hcv := fun (w' : World) (hb : Below w.heap.size w w') => Bu row w' _ 0 w'.heap.size (hv.grow hb) (Nat.le_refl _) (hL.below hb).tabs
 have d1 : decide (fuel < 0) = true := decide_eq_true hf
 obtain ⟨k, b, n, s, l, f, a1, c1, a2, c2, hre, ex, _⟩ := RV.mk_parts hv
 simp only [List.cons.injEq, and_true] at ex
 obtain ⟨rfl, rfl, rfl, rfl, rfl, rfl⟩ := ex
 have HB := Lib.hid (Aj (w := w) (.cells #[.int .u8 k, .bool b, .int .i64 n, .string s, .slice a1 l.len c1, .slice a2 f.len c2] 27) Ah)
 have hz := Ab (w.alloc (.cells #[.int .u8 k, .bool b, .int .i64 n, .string s, .slice a1 l.len c1, .slice a2 f.len c2] 27)) Ah
 have hx := Af (o := Ah) (Ab w (.cells #[.int .u8 k, .bool b, .int .i64 n, .string s, .slice a1 l.len c1, .slice a2 f.len c2] 27))
 rw [show (w.alloc (.cells #[.int .u8 k, .bool b, .int .i64 n, .string s, .slice a1 l.len c1, .slice a2 f.len c2] 27)).heap.size = w.heap.size + 1 by simp] at hz
 rw [hp] at hcc
 rw [hk] at hcv
 have HCC := Lib.hid hcc
 have HCV := Lib.hid hcv
 clear hL hr hv hst hlen hcc hcv
 go_enter Tryz.func15, Tryz.ntmps15
 go_upto_region 1 with (fail)
 generalize (w.alloc (.cells #[.int .u8 k, .bool b, .int .i64 n, .string s, .slice a1 l.len c1, .slice a2 f.len c2] 27)).alloc Ah = W at *
 have HZ := Lib.hid hz
 have HX := Lib.hid hx
 clear hz hx
 go_upto_region 8 with (first | (go_at_call 16; (with_reducible refine (HCC.out _ HB.out).mono ?_); rintro e w1 ⟨rfl, hb1⟩; have HB1 := Lib.hid hb1; obtain ⟨z0, z1, z2, z3, z4, z5, z6⟩ := Ae (blk hb1 HZ.out); obtain ⟨x0, x1, x2, x3, x4, x5, x6⟩ := Ae (blk hb1 HX.out); clear hb1) | (go_at_call 17; (with_reducible refine (HCV.out _ (Aa HB.out HB.out.size HB1.out)).mono ?_); rintro e w2 ⟨rfl, hb2⟩; have HB2 := Lib.hid (Aa HB1.out HB1.out.size hb2); clear z0 z1 z2 z3 z4 z5 z6 x0 x1 x2 x3 x4 x5 x6; obtain ⟨z0, z1, z2, z3, z4, z5, z6⟩ := Ae (blk HB2.out HZ.out); obtain ⟨x0, x1, x2, x3, x4, x5, x6⟩ := Ae (blk HB2.out HX.out); clear hb2))
 go_wp2_with fail
 refine bodyPost_ret (v := .tuple #[Bs, .int .i64 (0 : Nat), .int .i64 2]) (by simp [results, Tryz.results15, go_sem, Ai, z0, z1, z2, z3, z4, z5]) rfl ?_
 exact D1 (Ag (Nat.le_succ _) [_, _, _, _, _, _] 0 _ (Aa HB.out HB.out.size HB2.out))
theorem S8 (hp : AL p = 0) (hk : Ao row 0 = 0) (hf : 65536 < fuel) : Calls Tryz.prog 15 #[.slice A p.length c, .agg #[r0, r1, r2, r3, r4, r5], .int .i64 fuel] w (RunPost ((Am, 2), 0) w) := by
 have hcc : ∀ (w' : World), Below w.heap.size w w' → Calls Tryz.prog 16 #[.slice A p.length c] w' (fun e w'' => e = .returned (.int .i64 (AL p)) ∧ Below w'.heap.size w' w'') := fun w' hb => Bv p A c w' hlen hst (hL.below hb) (hr.keep hb)
 have hcv := fun (w' : World) (hb : Below w.heap.size w w') => Bu row w' _ 0 w'.heap.size (hv.grow hb) (Nat.le_refl _) (hL.below hb).tabs
 have d1 : decide (fuel < 0) = false := decide_eq_false (by omega)
 have d2 : decide (65536 < fuel) = true := decide_eq_true hf
 obtain ⟨k, b, n, s, l, f, a1, c1, a2, c2, hre, ex, _⟩ := RV.mk_parts hv
 simp only [List.cons.injEq, and_true] at ex
 obtain ⟨rfl, rfl, rfl, rfl, rfl, rfl⟩ := ex
 have HB := Lib.hid (Aj (w := w) (.cells #[.int .u8 k, .bool b, .int .i64 n, .string s, .slice a1 l.len c1, .slice a2 f.len c2] 27) Ah)
 have hz := Ab (w.alloc (.cells #[.int .u8 k, .bool b, .int .i64 n, .string s, .slice a1 l.len c1, .slice a2 f.len c2] 27)) Ah
 have hx := Af (o := Ah) (Ab w (.cells #[.int .u8 k, .bool b, .int .i64 n, .string s, .slice a1 l.len c1, .slice a2 f.len c2] 27))
 rw [show (w.alloc (.cells #[.int .u8 k, .bool b, .int .i64 n, .string s, .slice a1 l.len c1, .slice a2 f.len c2] 27)).heap.size = w.heap.size + 1 by simp] at hz
 rw [hp] at hcc
 rw [hk] at hcv
 have HCC := Lib.hid hcc
 have HCV := Lib.hid hcv
 clear hL hr hv hst hlen hcc hcv
 go_enter Tryz.func15, Tryz.ntmps15
 go_upto_region 1 with (fail)
 generalize (w.alloc (.cells #[.int .u8 k, .bool b, .int .i64 n, .string s, .slice a1 l.len c1, .slice a2 f.len c2] 27)).alloc Ah = W at *
 have HZ := Lib.hid hz
 have HX := Lib.hid hx
 clear hz hx
 go_upto_region 8 with (first | (go_at_call 16; (with_reducible refine (HCC.out _ HB.out).mono ?_); rintro e w1 ⟨rfl, hb1⟩; have HB1 := Lib.hid hb1; obtain ⟨z0, z1, z2, z3, z4, z5, z6⟩ := Ae (blk hb1 HZ.out); obtain ⟨x0, x1, x2, x3, x4, x5, x6⟩ := Ae (blk hb1 HX.out); clear hb1) | (go_at_call 17; (with_reducible refine (HCV.out _ (Aa HB.out HB.out.size HB1.out)).mono ?_); rintro e w2 ⟨rfl, hb2⟩; have HB2 := Lib.hid (Aa HB1.out HB1.out.size hb2); clear z0 z1 z2 z3 z4 z5 z6 x0 x1 x2 x3 x4 x5 x6; obtain ⟨z0, z1, z2, z3, z4, z5, z6⟩ := Ae (blk HB2.out HZ.out); obtain ⟨x0, x1, x2, x3, x4, x5, x6⟩ := Ae (blk HB2.out HX.out); clear hb2))
 go_wp2_with fail
 refine bodyPost_ret (v := .tuple #[Bs, .int .i64 (0 : Nat), .int .i64 2]) (by simp [results, Tryz.results15, go_sem, Ai, z0, z1, z2, z3, z4, z5]) rfl ?_
 exact D1 (Ag (Nat.le_succ _) [_, _, _, _, _, _] 0 _ (Aa HB.out HB.out.size HB2.out))
theorem Qd (hp : AL p = 0) (hk : Ao row 0 = 0) (hf0 : 0 ≤ fuel) (hf1 : fuel ≤ 65536) : Calls Tryz.prog 15 #[.slice A p.length c, .agg #[r0, r1, r2, r3, r4, r5], .int .i64 fuel] w (RunPost (AD p row fuel.toNat 0 []) w) := by
 have hcc : ∀ (w' : World), Below w.heap.size w w' → Calls Tryz.prog 16 #[.slice A p.length c] w' (fun e w'' => e = .returned (.int .i64 (AL p)) ∧ Below w'.heap.size w' w'') := fun w' hb => Bv p A c w' hlen hst (hL.below hb) (hr.keep hb)
 have hcv := fun (w' : World) (hb : Below w.heap.size w w') => Bu row w' _ 0 w'.heap.size (hv.grow hb) (Nat.le_refl _) (hL.below hb).tabs
 have d1 : decide (fuel < 0) = false := decide_eq_false (by omega)
 have d2 : decide (65536 < fuel) = false := decide_eq_false (by omega)
 obtain ⟨hp1, hp2, hF, hH⟩ := Ip hp
 have HLD := Lib.hid hL
 have HST := Lib.hid hst
 have HRI := Lib.hid hr
 have HRV := Lib.hid hv
 have HH := Lib.hid hH
 obtain ⟨R, hR⟩ : ∃ R, AD p row fuel.toNat 0 [] = R := ⟨_, rfl⟩
 rw [hR]
 have HR := Lib.hid hR
 clear hR hH
 obtain ⟨k, b, n, s, l, f, a1, c1, a2, c2, hre, ex, _⟩ := RV.mk_parts hv
 simp only [List.cons.injEq, and_true] at ex
 obtain ⟨rfl, rfl, rfl, rfl, rfl, rfl⟩ := ex
 have HB := Lib.hid (Aj (w := w) (.cells #[.int .u8 k, .bool b, .int .i64 n, .string s, .slice a1 l.len c1, .slice a2 f.len c2] 27) Ah)
 have hz := Ab (w.alloc (.cells #[.int .u8 k, .bool b, .int .i64 n, .string s, .slice a1 l.len c1, .slice a2 f.len c2] 27)) Ah
 have hx := Af (o := Ah) (Ab w (.cells #[.int .u8 k, .bool b, .int .i64 n, .string s, .slice a1 l.len c1, .slice a2 f.len c2] 27))
 rw [show (w.alloc (.cells #[.int .u8 k, .bool b, .int .i64 n, .string s, .slice a1 l.len c1, .slice a2 f.len c2] 27)).heap.size = w.heap.size + 1 by simp] at hz
 rw [hp] at hcc
 rw [hk] at hcv
 have HCC := Lib.hid hcc
 have HCV := Lib.hid hcv
 clear hL hr hv hst hlen hcc hcv
 go_enter Tryz.func15, Tryz.ntmps15
 go_upto_region 1 with (fail)
 generalize (w.alloc (.cells #[.int .u8 k, .bool b, .int .i64 n, .string s, .slice a1 l.len c1, .slice a2 f.len c2] 27)).alloc Ah = W at *
 have HZ := Lib.hid hz
 have HX := Lib.hid hx
 clear hz hx
 go_upto_region 10 with (first | (go_at_call 16; (with_reducible refine (HCC.out _ HB.out).mono ?_); rintro e w1 ⟨rfl, hb1⟩; have HB1 := Lib.hid hb1; obtain ⟨z0, z1, z2, z3, z4, z5, z6⟩ := Ae (blk hb1 HZ.out); obtain ⟨x0, x1, x2, x3, x4, x5, x6⟩ := Ae (blk hb1 HX.out); clear hb1) | (go_at_call 17; (with_reducible refine (HCV.out _ (Aa HB.out HB.out.size HB1.out)).mono ?_); rintro e w2 ⟨rfl, hb2⟩; have HB2 := Lib.hid (Aa HB1.out HB1.out.size hb2); clear z0 z1 z2 z3 z4 z5 z6 x0 x1 x2 x3 x4 x5 x6; obtain ⟨z0, z1, z2, z3, z4, z5, z6⟩ := Ae (blk HB2.out HZ.out); obtain ⟨x0, x1, x2, x3, x4, x5, x6⟩ := Ae (blk HB2.out HX.out); clear hb2))
 have hw2 := Aa HB.out HB.out.size HB2.out
 obtain ⟨M, hMe⟩ : ∃ M, w2.heap.size = M := ⟨_, rfl⟩
 have hbm := Ad (w := w2) (.cells #[.slice none 0 0, .int .u8 k, .bool b, .int .i64 n, .string s, .slice a1 l.len c1, .slice a2 f.len c2, .int .i64 fuel, .int .i64 0] 78)
 have hwm := Aa hw2 hw2.size hbm
 have hlm := Ab w2 (.cells #[.slice none 0 0, .int .u8 k, .bool b, .int .i64 n, .string s, .slice a1 l.len c1, .slice a2 f.len c2, .int .i64 fuel, .int .i64 0] 78)
 have hsm : (w2.alloc (.cells #[.slice none 0 0, .int .u8 k, .bool b, .int .i64 n, .string s, .slice a1 l.len c1, .slice a2 f.len c2, .int .i64 fuel, .int .i64 0] 78)).heap.size = w2.heap.size + 1 := by simp
 have hma : Mach M (M + 1) (w2.alloc (.cells #[.slice none 0 0, .int .u8 k, .bool b, .int .i64 n, .string s, .slice a1 l.len c1, .slice a2 f.len c2, .int .i64 fuel, .int .i64 0] 78)) row [] 0 fuel 0 := ⟨none, _, _, _, _, _, _, by rw [← hMe]; exact hlm, RV.keep (Same.of_below hwm) (Nat.le_refl _) (by rw [← hMe]; exact hw2.size) _ _ HRV.out, Nat.le_refl _, by rw [hsm, hMe]; exact Nat.le_refl _, Or.inl ⟨rfl, rfl, rfl⟩⟩
 rw [hMe] at hsm
 rw [hMe]
 have hzm := blk hbm (blk HB2.out HZ.out)
 generalize w2.alloc (.cells #[.slice none 0 0, .int .u8 k, .bool b, .int .i64 n, .string s, .slice a1 l.len c1, .slice a2 f.len c2, .int .i64 fuel, .int .i64 0] 78) = wm at *
 have HMA := Lib.hid (hma.keep (Ad (.map EX 5)))
 have HWM := Lib.hid (Aa hwm hwm.size (Ad (.map EX 5)))
 have hom := Ab wm (.map EX 5)
 rw [hsm] at hom
 have HOM := Lib.hid hom
 clear hom
 have HZM := Lib.hid (Af (o := .map EX 5) hzm)
 have hwM : w.heap.size + 1 < M := by have := lt_of_block (blk HB2.out HZ.out); omega
 have hmM : M < wm.heap.size := by omega
 clear hw2 hMe hbm hwm hlm hma hzm HB HB1 HB2 HZ HX HCC HCV z0 z1 z2 z3 z4 z5 z6 x0 x1 x2 x3 x4 x5 x6 d1 d2 hp hk hre HRV
 go_wp2_with (go_at_call 32; (with_reducible refine (Oi _).mono ?_); rintro e wo ⟨rfl, hwo⟩; subst hwo)
 have hso : (wm.alloc (.map EX 5)).heap.size = wm.heap.size + 1 := by simp
 generalize wm.alloc (.map EX 5) = wo at *
 go_loopw [14] (fun _ wr => SG p hF row M wo R wr) (fun _ wr => Fj p M wr)
 case atStart => exact ⟨0, [], fuel, M + 1, 0, Kw HH.out, HMA.out, Nat.zero_le _, HR, hf0, hf1, MFr.refl M wo⟩
 case round =>
  obtain ⟨i, vs, fu, hi, cp, hat, hm, hcp, HRG, hu0, hu1, hmf⟩ := hrel
  have HAT := Lib.hid hat
  have HM := Lib.hid hm
  have HMF := Lib.hid hmf
  have HCP := Lib.hid hcp
  obtain ⟨y7, y8, y9⟩ := hm.cells
  have HRL : Hid (Fj p M wr = p.length - i) := Lib.hid (by unfold Fj; rw [y8]; simp)
  have hile := hat.2.1
  clear hat hm hmf hcp HMA HR
  by_cases hlt : i < p.length
  · have q1 : decide ((i : Int) < (p.length : Int)) = true := decide_eq_true (by omega)
    by_cases hu : fu = 0
    · subst hu
      have hRR := HRG.out
      rw [show ((0 : Int)).toNat = 0 by rfl, AD, if_pos hlt] at hRR
      have HRR := Lib.hid hRR
      clear hRR
      obtain ⟨z0, z1, z2, z3, z4, z5, z6⟩ := Ae (HMF.out.blk (by omega) HZM.out)
      go_wp2_with fail
      refine bodyPost_ret (v := .tuple #[Bs, .int .i64 (0 : Nat), .int .i64 16]) (by simp [results, Tryz.results15, go_sem, Ai, z0, z1, z2, z3, z4, z5]) rfl ?_
      rw [← HRR.out]
      exact D1 (Ag (Nat.le_succ _) [_, _, _, _, _, _] 0 _ (HWM.out.trans (MFr.below HMF.out (by omega) (by omega))))
    · have hu2 : (fu == 0) = false := by simpa using hu
      have w1 : IntKind.i64.wrap (fu - 1) = fu - 1 := IntWalk.i64_in _ (by omega)
      go_upto_region 15 with (fail)
      have hse := HM.out.setM (fu - 1)
      have hma := hse.2
      have hfa : MFr M wo (wr.setCell ⟨M, 7, none⟩ (.int .i64 (fu - 1))) := HMF.out.cellM
      generalize wr.setCell ⟨M, 7, none⟩ (.int .i64 (fu - 1)) = wa at *
      obtain ⟨y7, y8, y9⟩ := hma.cells
      have hwa := HWM.out.trans (MFr.below hfa (B := w.heap.size) (by omega) (by omega))
      have hri := RowI.keep HRI.out hwa
      rcases hri with h0 | ⟨bp, op', rfl, hin⟩
      · omega
      obtain ⟨j0, j1, j2, j3, j4⟩ := hin i hlt
      have hbx := Ad (w := wa) (BK p[i])
      have hxx := Ab wa (BK p[i])
      have hmb := hma.keep hbx
      have hfb := hfa.trans (MFr.of_below hbx)
      have hib0 : (0 : Int) ≤ (i : Int) := by omega
      have hib1 : (i : Int) < (p.length : Int) := by omega
      go_upto_region 16 with (fail)
      clear j0 j1 j2 j3 j4 hin y7 y8 y9 w1 hse
      generalize wa.alloc (BK p[i]) = wb at *
      obtain ⟨y7, y8, y9⟩ := hmb.cells
      have w2 : IntKind.i64.wrap ((i : Int) + 1) = (i : Int) + 1 := IntWalk.i64_in _ (by omega)
      have hlw : wa.heap.size ≠ M := by have := hma.lt; omega
      go_upto_region 17 with (fail)
      have hmc := (hmb.setM ((i : Int) + 1)).1
      have hfc : MFr M wo (wb.setCell ⟨M, 8, none⟩ (.int .i64 ((i : Int) + 1))) := hfb.cellM
      have hxc := ((MFr.refl M wb).cellM (v := .int .i64 ((i : Int) + 1)) (o := 8)).blk hlw hxx
      generalize wb.setCell ⟨M, 8, none⟩ (.int .i64 ((i : Int) + 1)) = wc at *
      obtain ⟨x0, x1, x2, x3, x4⟩ := AF hxc
      have hwc := HWM.out.trans (MFr.below hfc (B := w.heap.size) (by omega) (by omega))
      obtain ⟨nf, hnf, hcf, hcl⟩ := LA p hF i vs HH.out hp2 HAT.out hlt HST.out M hi row cp (fu - 1) wc w hmc HCP.out HLD.out hwc (by omega)
      have hlk := Oy (hfc.blk (by omega) HOM.out) p[i].op nf hnf
      obtain ⟨j, hj1, hj2, hj3⟩ := Me HH.out HAT.out hlt row (fun s h => (Bn s h).1)
      have hRR := HRG.out
      rw [show fu.toNat = (fu - 1).toNat + 1 by omega, AD, dif_pos hlt] at hRR
      generalize opR row p[i] vs ((i : Int) + 1) = q at *
      obtain ⟨why, vs', nx'⟩ := q
      dsimp only at hcl hj1 hj3 hRR
      subst hj1
      rw [Int.toNat_natCast] at hRR
      have HCL := Lib.hid hcl
      have HFC := Lib.hid hfc
      have HJ3 := Lib.hid hj3
      have HJ2 := Lib.hid hj2
      have HNF := Lib.hid hnf
      clear hcl hj3 hj2 hnf hmc hmb hma hxx hxc hbx hwa hfa hfb hwc hfc y7 y8 y9 hib0 hib1 HAT HM HRG
      by_cases hy : why = 0
      · subst hy
        have hyd : ((0 : Int) != 0) = false := rfl
        rw [if_neg (by simp)] at hRR
        have HRR := Lib.hid hRR
        clear hRR
        go_wp2_with ((with_reducible refine (HCL.out).mono ?_); rintro e w7 ⟨rfl, hi7, c7, hc7, hm7, hf7⟩; have HC7 := Lib.hid hc7; have HM7 := Lib.hid hm7; have HF7 := Lib.hid hf7; clear hc7 hm7 hf7)
        go_roundw
        case rel => exact ⟨j, vs', fu - 1, hi7, c7, HJ3.out, HM7.out, HC7.out, HRR, by omega, by omega, HFC.out.trans HF7.out⟩
        case measure =>
         have e7 : Fj p M w7 = p.length - j := by unfold Fj; rw [HM7.out.cells.2.1]; simp
         have := HRL.out
         have := HJ2.out
         omega
      · have hyd : (why != 0) = true := by simpa using hy
        rw [if_pos hy] at hRR
        have HRR := Lib.hid hRR
        clear hRR
        go_upto_region 19 with ((with_reducible refine (HCL.out).mono ?_); rintro e w7 ⟨rfl, hi7, c7, hc7, hm7, hf7⟩; have HM7 := Lib.hid hm7; have HF7 := Lib.hid (HFC.out.trans hf7); clear hc7 hm7 hf7)
        obtain ⟨z0, z1, z2, z3, z4, z5, z6⟩ := Ae (HF7.out.blk (by omega) HZM.out)
        obtain ⟨y7, y8, y9⟩ := HM7.out.cells
        go_region_with fail
        all_goals (go_wp2_with fail)
        all_goals (refine bodyPost_ret (v := .tuple #[Bs, .int .i64 (fu - 1), .int .i64 why]) (by simp [results, Tryz.results15, go_sem, Ai, z0, z1, z2, z3, z4, z5]) rfl ?_)
        all_goals (rw [← HRR.out])
        all_goals (have hbz := HWM.out.trans (MFr.below HF7.out (B := w.heap.size) (by omega) (by omega)))
        all_goals (have hbs := Ag (B := w.heap.size) (a := w) (g := w.heap.size + 1) (Nat.le_succ _) [.int .u8 0, .bool false, .int .i64 0, .string ⟨#[]⟩, .slice none 0 0, .slice none 0 0] 0 _ hbz)
        all_goals (first | exact Gt (by omega) hbs.drew | exact Gt (by omega) hbs | exact Gt (by omega) (Ag (B := w.heap.size) (a := w) (g := w.heap.size + 1) (Nat.le_succ _) [.int .u8 0, .bool false, .int .i64 0, .string ⟨#[]⟩, .slice none 0 0, .slice none 0 0] 0 _ hbz.drew))
  · have q1 : decide ((i : Int) < (p.length : Int)) = false := decide_eq_false (by omega)
    have hie : i = p.length := by omega
    have hvl : vs.length = 1 := by
      have h1 := HAT.out.1
      have h2 := HH.out.2.1
      rw [hie, h2] at h1
      have := Option.some.inj h1
      omega
    have hRR := HRG.out
    rw [Qb hlt] at hRR
    have hwr := HWM.out.trans (MFr.below HMF.out (B := w.heap.size) (by omega) (by omega))
    have ht := EP M hi row vs cp fu i wr HM.out (by omega) (by omega)
    unfold Mb at ht
    generalize Bz vs = tt at *
    obtain ⟨kt, bt, nt, st, lt, ft⟩ := tt
    have HT := Lib.hid ht
    have HRR := Lib.hid hRR
    have HWR := Lib.hid hwr
    have hzr := HMF.out.blk (by omega) HZM.out
    have HZR := Lib.hid hzr
    clear ht hRR hwr hzr HRG HAT hvl
    go_upto_region 21 with (first | (go_at_call 34; (with_reducible refine (HT.out).mono ?_); rintro e w7 ⟨v0, v1, v2, v3, v4, v5, rfl, hv7, hb7⟩; have HB7 := Lib.hid hb7; have HOW := Lib.hid (Mw _ _ _ _ _ _ _ w7 (HLD.out.below (Aa HWR.out HWR.out.size hb7)) hv7.any); clear hv7 hb7) | (go_at_call 33; (with_reducible refine (HOW.out).mono ?_); intro e w8 hev; obtain ⟨hb8, e1, d1, e2, d2, rfl, hv8⟩ := hev.parts; have HB8 := Lib.hid (Aa HB7.out HB7.out.size hb8); have HS7 := Lib.hid HB7.out.size; have HV8 := Lib.hid hv8; clear hev hb8 hv8))
    have hbx := Ad (w := w8) (.cells #[.int .u8 kt, .bool bt, .int .i64 nt, .string st, .slice e1 lt.len d1, .slice e2 ft.len d2] 27)
    have hxx := Ab w8 (.cells #[.int .u8 kt, .bool bt, .int .i64 nt, .string st, .slice e1 lt.len d1, .slice e2 ft.len d2] 27)
    have hb9 := Aa HB8.out HB8.out.size hbx
    have hz9 := blk hb9 HZR.out
    have hv9 := RV.keep (Same.of_below hbx) (Nat.le_refl _) hbx.size _ _ HV8.out
    have hw9 := HM.out.keep hb9
    have hws := HWR.out.size
    have hs7 := HS7.out
    have hzs := lt_of_block HZR.out
    have hw9b := Aa HWR.out HWR.out.size hb9
    clear y7 y8 y9
    generalize w8.alloc (.cells #[.int .u8 kt, .bool bt, .int .i64 nt, .string st, .slice e1 lt.len d1, .slice e2 ft.len d2] 27) = w9 at *
    obtain ⟨y7, y8, y9⟩ := hw9.cells
    obtain ⟨x0, x1, x2, x3, x4, x5, x6⟩ := Ae hxx
    obtain ⟨z0, z1, z2, z3, z4, z5, z6⟩ := Ae hz9
    have HV9 := Lib.hid hv9
    have HW9 := Lib.hid hw9b
    clear hv9 hw9 hz9 hxx hbx hb9 hw9b
    go_region_with fail
    all_goals (go_wp2_with fail)
    all_goals (refine bodyPost_ret (v := .tuple #[.agg #[.int .u8 kt, .bool bt, .int .i64 nt, .string st, .slice e1 lt.len d1, .slice e2 ft.len d2], .int .i64 fu, .int .i64 0]) (by simp [results, Tryz.results15, go_sem, Ai, z0, z1, z2, z3, z4, z5]) rfl ?_)
    all_goals (rw [← HRR.out])
    all_goals (exact R9 (y := 0) (x := fu) (n := fu.toNat) (by omega) HW9.out (by omega) (Nat.le_trans hws hs7) HV9.out)
theorem BY : Calls Tryz.prog 15 #[.slice A p.length c, .agg #[r0, r1, r2, r3, r4, r5], .int .i64 fuel] w (RunPost (BC p row fuel) w) := by
 unfold BC
 by_cases h1 : AL p = 0
 · rw [if_neg (fun h => h h1)]
   by_cases h2 : Ao row 0 = 0
   · rw [if_neg (fun h => h h2)]
     by_cases h3 : fuel < 0 ∨ 65536 < fuel
     · rw [if_pos h3]
       rcases h3 with h3 | h3
       · exact S7 p A c row fuel r0 r1 r2 r3 r4 r5 w hlen hst hL hr hv h1 h2 h3
       · exact S8 p A c row fuel r0 r1 r2 r3 r4 r5 w hlen hst hL hr hv h1 h2 h3
     · rw [if_neg h3]
       exact Qd p A c row fuel r0 r1 r2 r3 r4 r5 w hlen hst hL hr hv h1 h2 (by omega) (by omega)
   · rw [if_pos h2]
     exact S6 p A c row fuel r0 r1 r2 r3 r4 r5 w hlen hst hL hr hv h1 (by simpa using h2)
 · rw [if_pos h1]
   exact S5 p A c row fuel r0 r1 r2 r3 r4 r5 w hlen hst hL hr hv (by simpa using h1)
end
/- vm.Holds. -/
set_option maxHeartbeats 4000000 in
set_option maxRecDepth 100000 in
theorem G1 (p : List IT) (A : Option Addr) (c : Nat) (row : VT) (fuel : Int) (r0 r1 r2 r3 r4 r5 : Value) (w : World) (hlen : p.length ≤ LIM) (hst : ∀ x ∈ p, Be x.s) (hL : Laid w) (hr : RowI w p A) (hv : RV w 0 w.heap.size row [r0, r1, r2, r3, r4, r5]) :
   Calls Tryz.prog 19 #[.slice A p.length c, .agg #[r0, r1, r2, r3, r4, r5], .int .i64 fuel] w fun e w' => e = .returned (.tuple #[.bool (Dk p row fuel).1, .int .i64 (Dk p row fuel).2.1, .int .i64 (Dk p row fuel).2.2]) ∧ Below w.heap.size w w' := by
 have hrun := fun (w' : World) (hb : Below w.heap.size w w') => BY p A c row fuel r0 r1 r2 r3 r4 r5 w' hlen hst (hL.below hb) (hr.keep hb) (hv.grow hb)
 unfold Dk
 unfold RunPost at hrun
 generalize BC p row fuel = R at *
 obtain ⟨⟨t, y⟩, nl⟩ := R
 obtain ⟨kt, bt, nt, st, lt, ft⟩ := t
 have HRUN := Lib.hid hrun
 obtain ⟨k, b, n, s, l, f, a1, c1, a2, c2, hre, ex, _⟩ := RV.mk_parts hv
 simp only [List.cons.injEq, and_true] at ex
 obtain ⟨rfl, rfl, rfl, rfl, rfl, rfl⟩ := ex
 obtain ⟨q, hq⟩ : ∃ q : Bool × Nat × Int, (if y = 0 ∧ 1 < (VT.mk kt bt nt st lt ft).kind then (false, nl, 5) else (decide (y = 0) && (VT.mk kt bt nt st lt ft).bool, nl, y)) = q := ⟨_, rfl⟩
 dsimp only
 rw [hq]
 have HQ := Lib.hid hq
 have HB := Lib.hid (Ad (w := w) (.cells #[.int .u8 k, .bool b, .int .i64 n, .string s, .slice a1 l.len c1, .slice a2 f.len c2] 27))
 have hx := Ab w (.cells #[.int .u8 k, .bool b, .int .i64 n, .string s, .slice a1 l.len c1, .slice a2 f.len c2] 27)
 clear hrun hlen hst hL hr hv hq
 go_enter Tryz.func19, Tryz.ntmps19
 go_upto_region 1 with (fail)
 generalize w.alloc (.cells #[.int .u8 k, .bool b, .int .i64 n, .string s, .slice a1 l.len c1, .slice a2 f.len c2] 27) = W at *
 obtain ⟨x0, x1, x2, x3, x4, x5, x6⟩ := Ae hx
 clear hx
 go_upto_region 2 with (go_at_call 15; (with_reducible refine (HRUN.out _ HB.out).mono ?_); rintro e w1 ⟨hb1, v0, v1, v2, v3, v4, v5, rfl, hv1⟩; obtain ⟨kx, bx, nx, sx, lx, fx, e1, d1, e2, d2, hxe, ex, _⟩ := RV.mk_parts hv1; cases hxe; simp only [List.cons.injEq, and_true] at ex; obtain ⟨rfl, rfl, rfl, rfl, rfl, rfl⟩ := ex; have HB1 := Lib.hid hb1; have HV1 := Lib.hid hv1; clear hb1 hv1)
 have hbx := Ad (w := w1) (.cells #[.int .u8 kt, .bool bt, .int .i64 nt, .string st, .slice e1 lt.len d1, .slice e2 ft.len d2] 27)
 have hxx := Ab w1 (.cells #[.int .u8 kt, .bool bt, .int .i64 nt, .string st, .slice e1 lt.len d1, .slice e2 ft.len d2] 27)
 have hv2 := RV.keep (Same.of_below hbx) (Nat.zero_le _) hbx.size _ _ HV1.out
 have hb2 := Aa HB.out HB.out.size (Aa HB1.out HB1.out.size hbx)
 clear x0 x1 x2 x3 x4 x5 x6
 generalize w1.alloc (.cells #[.int .u8 kt, .bool bt, .int .i64 nt, .string st, .slice e1 lt.len d1, .slice e2 ft.len d2] 27) = w2 at *
 have HFL := Lib.hid (Bo _ _ _ _ _ _ _ _ hv2)
 have HX2 := Lib.hid hxx
 have HB2 := Lib.hid hb2
 obtain ⟨z0, z1, z2, z3, z4, z5, z6⟩ := Ae hxx
 clear hbx hxx hv2 hb2
 by_cases hy : y = 0
 · subst hy
   by_cases hk : 1 < kt
   · have hfe : Bf (.mk kt bt nt st lt ft) = 5 := if_pos hk
     rw [hfe] at HFL
     have HQ2 : Hid (q = (false, nl, 5)) := Lib.hid (by rw [← HQ.out]; exact if_pos ⟨rfl, hk⟩)
     clear hfe hk
     go_wp2_with (go_at_call 37; (with_reducible refine (HFL.out).mono ?_); rintro e w3 ⟨rfl, hb3⟩; have HB3 := Lib.hid hb3; clear z0 z1 z2 z3 z4 z5 z6; obtain ⟨z0, z1, z2, z3, z4, z5, z6⟩ := Ae (blk hb3 HX2.out); clear hb3)
     refine bodyPost_ret (v := .tuple #[.bool false, .int .i64 nl, .int .i64 5]) (by simp [results, Tryz.results19, go_sem]) rfl ?_
     rw [HQ2.out]
     exact ⟨rfl, Aa HB2.out HB2.out.size HB3.out⟩
   · have hfe : Bf (.mk kt bt nt st lt ft) = 0 := if_neg hk
     rw [hfe] at HFL
     have HQ2 : Hid (q = (bt, nl, 0)) := Lib.hid (by rw [← HQ.out, if_neg (fun h => hk h.2)]; rfl)
     clear hfe hk
     go_wp2_with (go_at_call 37; (with_reducible refine (HFL.out).mono ?_); rintro e w3 ⟨rfl, hb3⟩; have HB3 := Lib.hid hb3; clear z0 z1 z2 z3 z4 z5 z6; obtain ⟨z0, z1, z2, z3, z4, z5, z6⟩ := Ae (blk hb3 HX2.out); clear hb3)
     refine bodyPost_ret (v := .tuple #[.bool bt, .int .i64 nl, .int .i64 0]) (by simp [results, Tryz.results19, go_sem]) rfl ?_
     rw [HQ2.out]
     exact ⟨rfl, Aa HB2.out HB2.out.size HB3.out⟩
 · have hyd : (y == 0) = false := by simpa using hy
   have HQ2 : Hid (q = (false, nl, y)) := Lib.hid (by rw [← HQ.out, if_neg (fun h => hy h.1), decide_eq_false hy]; rfl)
   clear hy
   go_wp2_with fail
   refine bodyPost_ret (v := .tuple #[.bool false, .int .i64 nl, .int .i64 y]) (by simp [results, Tryz.results19, go_sem]) rfl ?_
   rw [HQ2.out]
   exact ⟨rfl, HB2.out⟩
/- vm.own of what has an error. -/
set_option maxHeartbeats 1000000 in
set_option maxRecDepth 100000 in
theorem Q7 (t : VT) (y : Int) (v0 v1 v2 v3 v4 v5 : Value) (w : World) (hv : RV w 0 w.heap.size t [v0, v1, v2, v3, v4, v5]) (hy : (y != 0) = true) :
  Calls Tryz.prog 33 #[.agg #[v0, v1, v2, v3, v4, v5], .int .i64 y] w (EvPost w (Am, y)) := by
 obtain ⟨kx, bx, nx', sx, lx, fx, ax1, cx1, ax2, cx2, hxe, ex, _⟩ := RV.mk_parts hv
 simp only [List.cons.injEq, and_true] at ex
 obtain ⟨rfl, rfl, rfl, rfl, rfl, rfl⟩ := ex
 have HB := Lib.hid (Aj (w := w) (.cells #[.int .u8 kx, .bool bx, .int .i64 nx', .string sx, .slice ax1 lx.len cx1, .slice ax2 fx.len cx2] 27) Ah)
 have hz := Ab (w.alloc (.cells #[.int .u8 kx, .bool bx, .int .i64 nx', .string sx, .slice ax1 lx.len cx1, .slice ax2 fx.len cx2] 27)) Ah
 have hs : (w.alloc (.cells #[.int .u8 kx, .bool bx, .int .i64 nx', .string sx, .slice ax1 lx.len cx1, .slice ax2 fx.len cx2] 27)).heap.size = w.heap.size + 1 := by simp
 rw [hs] at hz
 clear hv hxe hs
 go_enter Tryz.func33, Tryz.ntmps33
 go_upto_region 1 with (fail)
 generalize (w.alloc (.cells #[.int .u8 kx, .bool bx, .int .i64 nx', .string sx, .slice ax1 lx.len cx1, .slice ax2 fx.len cx2] 27)).alloc Ah = W at *
 obtain ⟨z0, z1, z2, z3, z4, z5, z6⟩ := Ae hz
 clear hz
 go_wp2_with fail
 refine bodyPost_ret (v := .tuple #[Bs, .int .i64 y]) (by simp [results, Tryz.results33, go_sem, Ai, z0, z1, z2, z3, z4, z5]) rfl ?_
 exact Bx (Ag (Nat.le_succ _) [_, _, _, _, _, _] 0 _ HB.out)
/- vm.Step: what a right step makes of right values. -/
theorem Qo {w w9 : World} {lo : Nat} {y : Int} {t : VT} {v0 v1 v2 v3 v4 v5 : Value} (hb : Below w.heap.size w w9) (hg : w.heap.size + 1 + 1 < lo) (hv : RV w9 lo w9.heap.size t [v0, v1, v2, v3, v4, v5]) :
  EvPost w (t, y) (.returned (.tuple #[.agg #[v0, v1, v2, v3, v4, v5], .int .i64 y])) (w9.setCells (w.heap.size + 1 + 1) 0 [v0, v1, v2, v3, v4, v5]) :=
 ⟨Ag (by omega) [v0, v1, v2, v3, v4, v5] 0 _ hb, v0, v1, v2, v3, v4, v5, rfl, RV.above (lo' := w.heap.size) (o := 0) (us := [v0, v1, v2, v3, v4, v5]) hv hg (by omega) (Below.refl _ _)⟩
theorem Ok (t : VT) (y : Int) (v0 v1 v2 v3 v4 v5 : Value) (w : World) (hL : Laid w) (hv : RV w 0 w.heap.size t [v0, v1, v2, v3, v4, v5]) :
   Calls Tryz.prog 33 #[.agg #[v0, v1, v2, v3, v4, v5], .int .i64 y] w (EvPost w (if y ≠ 0 then (Am, y) else (t, y))) := by
 by_cases hy : y ≠ 0
 · rw [if_pos hy]
   exact Q7 t y _ _ _ _ _ _ w hv (by simpa using hy)
 · rw [if_neg hy]
   obtain rfl : y = 0 := Decidable.not_not.mp hy
   exact Mw t _ _ _ _ _ _ w hL hv
set_option maxHeartbeats 4000000 in
set_option maxRecDepth 100000 in
theorem SF (s : ST) (us : List VT) (A : Option Addr) (c : Nat) (row : VT) (r0 r1 r2 r3 r4 r5 : Value) (w : World) (hs : Be s) (hok : s.ok = true) (hq : s.takes = (us.length : Int)) (h21 : s.k < 21) (hck : Ao row 0 = 0) (hcu : ∀ v ∈ us, Ao v 0 = 0) (hL : Laid w) (hr : RV w 0 w.heap.size row [r0, r1, r2, r3, r4, r5]) (hv : RowX 0 w.heap.size w us A) :
  Calls Tryz.prog 21 #[.agg #[.int .u8 s.k, .string s.t, .int .i64 s.n], .agg #[r0, r1, r2, r3, r4, r5], .slice A us.length c] w (EvPost w (if (BZ s row us).2 ≠ 0 then (Am, (BZ s row us).2) else ((BZ s row us).1, (BZ s row us).2))) := by
 have hu64 : us.length ≤ 64 := by have := Bn s hok; omega
 have HTK : Hid (∀ w', Below w.heap.size w w' → Calls Tryz.prog 20 #[.agg #[.int .u8 s.k, .string s.t, .int .i64 s.n]] w' fun e w'' => e = .returned (.tuple #[.int .i64 (us.length : Int), .bool true]) ∧ Below w'.heap.size w' w'') := Lib.hid (fun w' hb => by
  have h := Dg s.k s.t s.n w' hs.2.1 (hL.below hb)
  rw [Df s hok, hq] at h
  exact h)
 have HAP := Lib.hid (fun (w' : World) (hb : Below w.heap.size w w') => FZ 0 w.heap.size s us A c row r0 r1 r2 r3 r4 r5 w' hs hok hq h21 (hL.below hb) (hr.grow hb) hb.size (RowX.keep hv (Nat.le_refl _) hb))
 have hcv := fun (w' : World) (hb : Below w.heap.size w w') => Bu row w' _ 0 w'.heap.size (hr.grow hb) (Nat.le_refl _) (hL.below hb).tabs
 rw [hck] at hcv
 have HCV := Lib.hid hcv
 clear hcv
 obtain ⟨⟨t, y⟩, hrz⟩ : ∃ r : Rz, BZ s row us = r := ⟨_, rfl⟩
 obtain ⟨kt, bt, nt, st, lt, ft⟩ := t
 rw [hrz] at HAP
 rw [hrz]
 clear hrz
 dsimp only
 obtain ⟨RR, hRR⟩ : ∃ R : Rz, (if y ≠ 0 then (Am, y) else (VT.mk kt bt nt st lt ft, y)) = R := ⟨_, rfl⟩
 rw [hRR]
 have HRR := Lib.hid hRR
 clear hRR
 obtain ⟨kr, br, nr, sr, lr, fr, ar1, cr1, ar2, cr2, hre, er, hjx⟩ := RV.mk_parts hr
 simp only [List.cons.injEq, and_true] at er
 obtain ⟨rfl, rfl, rfl, rfl, rfl, rfl⟩ := er
 obtain ⟨sk, sx, sn⟩ := s
 dsimp only at *
 have d1 : decide (sk ≥ 21) = false := decide_eq_false (by omega)
 have d2 : decide (21 ≤ sk) = false := decide_eq_false (by omega)
 clear hjx hre
 obtain ⟨W, hW, h0, h1, h2, hB, hS⟩ := If w (.cells #[.int .u8 sk, .string sx, .int .i64 sn] 43) (.cells #[.int .u8 kr, .bool br, .int .i64 nr, .string sr, .slice ar1 lr.len cr1, .slice ar2 fr.len cr2] 27) Ah
 have HW := Lib.hid hW
 have HV := Lib.hid hv
 have HL := Lib.hid hL
 have HCU := Lib.hid hcu
 have HB0 := Lib.hid hB
 have H00 := Lib.hid h0
 have H10 := Lib.hid h1
 have H20 := Lib.hid h2
 clear hW h0 h1 h2 hB hS hs hok hq h21 hck hcu hL hr hv
 go_enter Tryz.func21, Tryz.ntmps21
 go_upto_region 1 with (fail)
 have hw := HW.out
 rw [hw]
 clear hw HW
 obtain ⟨p0, p1, p2, p3⟩ := Ak H00.out
 go_upto_region 4 with (go_at_call 20; (with_reducible refine (HTK.out _ HB0.out).mono ?_); rintro e w1 ⟨rfl, hb1⟩; have HB1 := Lib.hid (Aa HB0.out HB0.out.size hb1); have H01 := Lib.hid (blk hb1 H00.out); have H11 := Lib.hid (blk hb1 H10.out); have H21 := Lib.hid (blk hb1 H20.out); clear hb1 p0 p1 p2 p3; obtain ⟨p0, p1, p2, p3⟩ := Ak H01.out)
 obtain ⟨q0, q1, q2, q3, q4, q5, q6⟩ := Ae H11.out
 clear H00 H10 H20 HB0 p0 p1 p2 p3
 go_wp2_with (go_at_call 17; (with_reducible refine (HCV.out _ HB1.out).mono ?_); rintro e w2 ⟨rfl, hb2⟩; have HB2 := Lib.hid (Aa HB1.out HB1.out.size hb2); have H02 := Lib.hid (blk hb2 H01.out); have H12 := Lib.hid (blk hb2 H11.out); have H22 := Lib.hid (blk hb2 H21.out); clear hb2 q0 q1 q2 q3 q4 q5 q6)
 go_loopw [41] (fun s41 wr => ∃ i : Nat, s41 = .int .i64 i ∧ i ≤ us.length ∧ Below w.heap.size w wr ∧ wr.heap[w.heap.size]? = some (.cells #[.int .u8 sk, .string sx, .int .i64 sn] 43 (0, 0)) ∧ wr.heap[w.heap.size + 1]? = some (.cells #[.int .u8 kr, .bool br, .int .i64 nr, .string sr, .slice ar1 lr.len cr1, .slice ar2 fr.len cr2] 27 (0, 0)) ∧ wr.heap[w.heap.size + 1 + 1]? = some Ah) (fun s41 _ => us.length - (intOf s41).toNat)
 case atStart => exact ⟨0, rfl, Nat.zero_le _, HB2.out, H02.out, H12.out, H22.out⟩
 case round =>
  obtain ⟨i, rfl, hil, hB, h0, h1, h2⟩ := hrel
  have HB := Lib.hid hB
  have H0 := Lib.hid h0
  have H1 := Lib.hid h1
  have H2 := Lib.hid h2
  clear hB h0 h1 h2 HB1 H01 H11 H21 HB2 H02 H12 H22
  by_cases hlt : i < us.length
  · rcases HV.out with hn0 | ⟨b, o, rfl, hbs, hrl⟩
    · omega
    obtain ⟨v0, v1, v2, v3, v4, v5, e0, e1, e2, e3, e4, e5, hvx⟩ := RL.el (Au us) b o i (us[i]'hlt) hrl (D4 us i hlt)
    have e0 := (HB.out.cell (p := ⟨b, o + i * 6, none⟩) hbs).trans e0
    have e1 := (HB.out.cell (p := ⟨b, o + i * 6 + 1, none⟩) hbs).trans e1
    have e2 := (HB.out.cell (p := ⟨b, o + i * 6 + 2, none⟩) hbs).trans e2
    have e3 := (HB.out.cell (p := ⟨b, o + i * 6 + 3, none⟩) hbs).trans e3
    have e4 := (HB.out.cell (p := ⟨b, o + i * 6 + 4, none⟩) hbs).trans e4
    have e5 := (HB.out.cell (p := ⟨b, o + i * 6 + 5, none⟩) hbs).trans e5
    have hvr := hvx.grow HB.out
    have hcx := HCU.out _ (List.getElem_mem hlt)
    obtain ⟨kx, bx, nx, sx', lx, fx, ax1, cx1, ax2, cx2, hxe, ex, hjx⟩ := RV.mk_parts hvx
    simp only [List.cons.injEq, and_true] at ex
    obtain ⟨rfl, rfl, rfl, rfl, rfl, rfl⟩ := ex
    clear hvx hjx hxe hrl
    go_upto_region 10 with (fail)
    have hb8 := Ad (w := wr) (.cells #[.int .u8 kx, .bool bx, .int .i64 nx, .string sx', .slice ax1 lx.len cx1, .slice ax2 fx.len cx2] 27)
    have hx8 := Ab wr (.cells #[.int .u8 kx, .bool bx, .int .i64 nx, .string sx', .slice ax1 lx.len cx1, .slice ax2 fx.len cx2] 27)
    have h8 := blk hb8 H0.out
    have h9 := blk hb8 H1.out
    have h10 := blk hb8 H2.out
    have hvr8 := hvr.grow hb8
    have hbw := Aa HB.out HB.out.size hb8
    generalize wr.alloc (.cells #[.int .u8 kx, .bool bx, .int .i64 nx, .string sx', .slice ax1 lx.len cx1, .slice ax2 fx.len cx2] 27) = w8 at *
    have hcv := Bu us[i] w8 _ 0 w8.heap.size hvr8 (Nat.le_refl _) (HL.out.below hbw).tabs
    rw [hcx] at hcv
    have HCX := Lib.hid hcv
    have HBW := Lib.hid hbw
    have H8 := Lib.hid h8
    have H9 := Lib.hid h9
    have H10 := Lib.hid h10
    obtain ⟨q0, q1, q2, q3, q4, q5, q6⟩ := Ae hx8
    clear hb8 hx8 h8 h9 h10 hvr8 hvr hbw hcv hcx e0 e1 e2 e3 e4 e5
    go_wp2_with (go_at_call 17; (with_reducible refine (HCX.out).mono ?_); rintro e w9 ⟨rfl, hb9⟩; have HB9 := Lib.hid (Aa HBW.out HBW.out.size hb9); have H8 := Lib.hid (blk hb9 H8.out); have H9 := Lib.hid (blk hb9 H9.out); have H10 := Lib.hid (blk hb9 H10.out); clear hb9 q0 q1 q2 q3 q4 q5 q6)
    go_roundw
    case rel => exact ⟨i + 1, by go_num, by omega, HB9.out, H8.out, H9.out, H10.out⟩
    case measure => simp [intOf]; omega
  · have hAP := HAP.out wr HB.out
    have HAPP := Lib.hid hAP
    clear hAP HAP HCU HTK HCV
    obtain ⟨p0, p1, p2, p3⟩ := Ak H0.out
    obtain ⟨q0, q1, q2, q3, q4, q5, q6⟩ := Ae H1.out
    go_upto_region 14 with (fail)
    go_wp2_with (first | (go_at_call 41; (with_reducible refine (HAPP.out).mono ?_); intro e w9 hap; obtain ⟨hb9, d1, e1, d2, e2, rfl, hv9⟩ := hap.parts; have hvv := RQ.to_rv (lo := 0) (hi := w9.heap.size) (fun b hq => ⟨Nat.zero_le _, by have := hb9.size; have := HB.out.size; rcases hq with h | h <;> omega⟩) _ _ hv9; have HB9 := Lib.hid (Aa HB.out HB.out.size hb9); have H9 := Lib.hid (blk hb9 H2.out); have HOW := Lib.hid (HRR.out ▸ Ok _ y _ _ _ _ _ _ w9 (HL.out.below (Aa HB.out HB.out.size hb9)) hvv); clear hb9 hv9 hvv hap p0 p1 p2 p3 q0 q1 q2 q3 q4 q5 q6) | (go_at_call 33; (with_reducible refine (HOW.out).mono ?_); intro e w10 how; obtain ⟨hb10, v0, v1, v2, v3, v4, v5, rfl, hv10⟩ := how; have HV10 := Lib.hid hv10; obtain ⟨kx, bx, nx, sx', lx, fx, g1, i1, g2, i2, hxe, ex, _⟩ := RV.mk_parts hv10; simp only [List.cons.injEq, and_true] at ex; obtain ⟨rfl, rfl, rfl, rfl, rfl, rfl⟩ := ex; clear hxe; have HB10 := Lib.hid (Aa HB9.out HB9.out.size hb10); have HX10 := Lib.hid (blk hb10 H9.out); have HL9 : Hid (w.heap.size + 1 + 1 < w9.heap.size) := Lib.hid (lt_of_block H9.out); clear hb10 hv10; obtain ⟨z0, z1, z2, z3, z4, z5, z6⟩ := Ae HX10.out))
    refine bodyPost_ret (v := .tuple #[.agg #[.int .u8 kx, .bool bx, .int .i64 nx, .string sx', .slice g1 lx.len i1, .slice g2 fx.len i2], .int .i64 RR.2]) (by simp [results, Tryz.results21, go_sem, Ai, z0, z1, z2, z3, z4, z5]) rfl ?_
    exact Qo (t := RR.1) (y := RR.2) HB10.out HL9.out HV10.out
end Go.Proofs.YtbemgcjckchdjaaGreatDoor
