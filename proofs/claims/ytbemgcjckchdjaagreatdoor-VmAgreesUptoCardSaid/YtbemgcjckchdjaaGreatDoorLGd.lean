import Derived.Test.YtbemgcjckchdjaaGreatDoorLGa
import Derived.Test.YtbemgcjckchdjaaGreatDoorLCa
import Derived.MapKept
import Derived.Maps.OwnOps
/- vm.own; the machine's flag, and, or (printed by genmach.py). -/
namespace Go.Proofs.YtbemgcjckchdjaaGreatDoor
open Go.RowKit
set_option linter.unusedSimpArgs false
set_option linter.unusedVariables false
theorem Mach.setM {M hi : Nat} {w : World} {row : VT} {vs : List VT} {c : Nat} {f n : Int} (h : Mach M hi w row vs c f n) (v : Int) : Mach M hi (w.setCell ⟨M, 8, none⟩ (.int .i64 v)) row vs c f v ∧ Mach M hi (w.setCell ⟨M, 7, none⟩ (.int .i64 v)) row vs c v n := by
 obtain ⟨A, r0, r1, r2, r3, r4, r5, h1, h2, h3⟩ := h
 refine ⟨⟨A, r0, r1, r2, r3, r4, r5, heap_setCell_same _ _ 8 _ _ _ h1, ?_, h3.mfr (MFr.refl M w).cellM⟩, ⟨A, r0, r1, r2, r3, r4, r5, heap_setCell_same _ _ 7 _ _ _ h1, ?_, h3.mfr (MFr.refl M w).cellM⟩⟩
 · exact RV.keep (fun b o hb => World.cell?_of_block (a := ⟨b, o, none⟩) (Below.heap_setCell _ _ _ _ (by show b ≠ M; omega))) (Nat.le_refl _) (Nat.le_refl _) _ _ h2
 · exact RV.keep (fun b o hb => World.cell?_of_block (a := ⟨b, o, none⟩) (Below.heap_setCell _ _ _ _ (by show b ≠ M; omega))) (Nat.le_refl _) (Nat.le_refl _) _ _ h2
theorem Mach.cells {M hi : Nat} {w : World} {row : VT} {vs : List VT} {c : Nat} {f n : Int} (h : Mach M hi w row vs c f n) : w.cell? ⟨M, 7, none⟩ = some (.int .i64 f) ∧ w.cell? ⟨M, 8, none⟩ = some (.int .i64 n) ∧ ∀ o, w.frozen? ⟨M, o, none⟩ = false := by
 obtain ⟨A, r0, r1, r2, r3, r4, r5, h1, h2, h3⟩ := h
 obtain ⟨_, _, _, _, _, _, _, a7, a8, a9⟩ := Ei h1
 exact ⟨a7, a8, a9⟩
theorem RV.any {w : World} {lo : Nat} {t : VT} {cs : List Value} (h : RV w lo w.heap.size t cs) : RV w 0 w.heap.size t cs := RV.keep (fun _ _ _ => rfl) (Nat.zero_le _) (Nat.le_refl _) t cs h
def MOp (M : Nat) (row : VT) (vs : List VT) (f nx why : Int) (w : World) (e : Ending) (w' : World) : Prop :=
 e = .returned (.int .i64 why) ∧ ∃ hi' c', c' ≤ maxLen ∧ Mach M hi' w' row vs c' f nx ∧ MFr M w w'
abbrev IW (x : IT) : Value := .agg #[.int .u8 x.op, .int .u8 x.s.k, .string x.s.t, .int .i64 x.s.n, .int .i64 x.tgt]
abbrev BK (x : IT) : Obj := .cells #[.int .u8 x.op, .int .u8 x.s.k, .string x.s.t, .int .i64 x.s.n, .int .i64 x.tgt] 73
section
variable (M hi : Nat) (row : VT) (vs : List VT) (c : Nat) (f nx : Int) (x : IT) (w : World) (hM : Mach M hi w row vs c f nx) (hk : 0 < vs.length) (hlen : vs.length ≤ 1000) (hc : c ≤ maxLen)
include hM hk hlen hc
set_option maxHeartbeats 1000000
set_option maxRecDepth 100000
theorem LE : Calls Tryz.prog 48 #[.pointer (some ⟨M, 0, none⟩), IW x] w (MOp M row vs f nx (Bf (Bz vs)) w) := by
 have hb0 := Ad (w := w) (BK x)
 have HT := Lib.hid (EP M hi row vs c f nx _ (hM.keep hb0) hk hlen)
 have HB0 := Lib.hid hb0
 have HMM := Lib.hid hM
 have HC := Lib.hid hc
 clear hM hk hlen hc hb0
 go_enter Tryz.func48, Tryz.ntmps48
 go_wp2_with (first | (go_at_call 34; (with_reducible refine (HT.out).mono ?_); rintro e w7 ⟨v0, v1, v2, v3, v4, v5, rfl, hv, hb7⟩; have HV := Lib.hid (Bo _ _ _ _ _ _ _ _ hv.any); have HB7 := Lib.hid (Aa HB0.out HB0.out.size hb7); clear hv hb7) | (go_at_call 37; (with_reducible refine (HV.out).mono ?_); rintro e w8 ⟨rfl, hb8⟩; have HB8 := Lib.hid (Aa HB7.out HB7.out.size hb8); clear hb8))
 go_ret
 exact ⟨rfl, hi, c, HC.out, HMM.out.keep HB8.out, MFr.of_below HB8.out⟩
theorem MO (vs2 : List VT) (nx2 : Int) (hv2 : Hid (vs2 = if (Bz vs).bool then vs.take (vs.length - 1) else vs)) (hn2 : Hid (nx2 = if (Bz vs).bool then nx else x.tgt)) : Calls Tryz.prog 46 #[.pointer (some ⟨M, 0, none⟩), IW x] w (MOp M row vs2 f nx2 (Bf (Bz vs)) w) := by
 have hb0 := Ad (w := w) (BK x)
 have hx0 := Ab w (BK x)
 have HT := Lib.hid (EP M hi row vs c f nx _ (hM.keep hb0) hk hlen)
 have hml := hM.lt
 have HB0 := Lib.hid hb0
 have HMM := Lib.hid hM
 have HC := Lib.hid hc
 have HK := Lib.hid hk
 have HLEN := Lib.hid hlen
 have HX0 := Lib.hid hx0
 have hs0 : (w.alloc (BK x)).heap.size = w.heap.size + 1 := by simp
 clear hM hk hlen hc hb0 hx0
 go_enter Tryz.func46, Tryz.ntmps46
 go_upto_region 1 with (fail)
 generalize w.alloc (BK x) = W at *
 have HS0 := Lib.hid hs0
 clear hs0
 go_upto_region 2 with (go_at_call 34; (with_reducible refine (HT.out).mono ?_); rintro e w7 ⟨v0, v1, v2, v3, v4, v5, rfl, hv, hb7⟩; have HV := Lib.hid hv; have HB7 := Lib.hid hb7; obtain ⟨kx, bx, nx', sx, lx, fx, ax1, cx1, ax2, cx2, hxe, ex, _⟩ := RV.mk_parts hv; simp only [List.cons.injEq, and_true] at ex; obtain ⟨rfl, rfl, rfl, rfl, rfl, rfl⟩ := ex; have HXE := Lib.hid hxe; clear hxe hv hb7)
 have hb8 := Ad (w := w7) (.cells #[.int .u8 kx, .bool bx, .int .i64 nx', .string sx, .slice ax1 lx.len cx1, .slice ax2 fx.len cx2] 27)
 have hz8 := Ab w7 (.cells #[.int .u8 kx, .bool bx, .int .i64 nx', .string sx, .slice ax1 lx.len cx1, .slice ax2 fx.len cx2] 27)
 have hl7 : M < w7.heap.size := by have := HB0.out.size; have := HB7.out.size; omega
 have hx8 := blk hb8 (blk HB7.out HX0.out)
 have hl8 : w.heap.size < w7.heap.size := by have := HB7.out.size; have := HS0.out; omega
 have HB08 := Lib.hid (Aa HB0.out HB0.out.size (Aa HB7.out HB7.out.size hb8))
 have hv8 := RV.keep (Same.of_below hb8) (Nat.le_refl _) hb8.size _ _ HV.out
 generalize w7.alloc (.cells #[.int .u8 kx, .bool bx, .int .i64 nx', .string sx, .slice ax1 lx.len cx1, .slice ax2 fx.len cx2] 27) = w8 at *
 have HV8 := Lib.hid hv8
 have HM8 := Lib.hid (HMM.out.keep HB08.out)
 have HZ8 := Lib.hid hz8
 have HX8 := Lib.hid hx8
 have HBX : Hid ((Bz vs).bool = bx) := Lib.hid (by rw [HXE.out]; rfl)
 obtain ⟨z0, z1, z2, z3, z4, z5, z6⟩ := Ae hz8
 obtain ⟨x0, x1, x2, x3, x4⟩ := AF hx8
 obtain ⟨m7, m8, m9⟩ := HM8.out.cells
 have hne : w7.heap.size ≠ M := by omega
 have hne2 : M ≠ w7.heap.size := by omega
 have hne3 : w.heap.size ≠ M := by omega
 have hne4 : M ≠ w.heap.size := by omega
 clear hb8 hz8 hx8 hv8 HT
 cases bx with
 | false =>
   go_upto_region 5 with (fail)
   have hst := HM8.out.setM x.tgt
   have hfr : MFr M w8 (w8.setCell ⟨M, 8, none⟩ (.int .i64 x.tgt)) := (MFr.refl M w8).cellM
   have hz9 := hfr.blk hne HZ8.out
   have hv9 := RV.mfr HV8.out hfr
   generalize w8.setCell ⟨M, 8, none⟩ (.int .i64 x.tgt) = w9 at *
   have HST := Lib.hid hst.1
   have HFR := Lib.hid hfr
   have HFL := Lib.hid (Bo _ _ _ _ _ _ _ _ hv9.any)
   clear z0 z1 z2 z3 z4 z5 z6 x0 x1 x2 x3 x4 m7 m8 m9 hst hfr hv9
   obtain ⟨z0, z1, z2, z3, z4, z5, z6⟩ := Ae hz9
   clear hz9
   go_wp2_with (go_at_call 37; (with_reducible refine (HFL.out).mono ?_); rintro e wz ⟨rfl, hbz⟩; have HBZ := Lib.hid hbz; clear hbz)
   go_ret
   have e1 := hv2.out
   have e2 := hn2.out
   rw [HBX.out] at e2
   try rw [HBX.out] at e1
   simp only [Bool.false_eq_true, if_false, if_true] at e1 e2
   subst e1 e2
   exact ⟨rfl, hi, c, HC.out, HST.out.keep HBZ.out, ((MFr.of_below HB08.out).trans HFR.out).trans (MFr.of_below HBZ.out)⟩
 | true =>
   have hp := Gr M hi row vs c f nx 1 w8 HM8.out HK.out HLEN.out HC.out
   have hp : Calls Tryz.prog 69 #[.pointer (some ⟨M, 0, none⟩), .int .i64 1] w8 (IL M hi row vs f nx 1 w8) := hp
   have HP := Lib.hid hp
   clear hp x0 x1 x2 x3 x4 m7 m8 m9
   go_upto_region 5 with (go_at_call 69; (with_reducible refine (HP.out).mono ?_); rintro e w9 ⟨A9, c9, rfl, _, _, hm9, hf9, _⟩; have HM9 := Lib.hid hm9; have HF9 := Lib.hid hf9; have HFL := Lib.hid (Bo _ _ _ _ _ _ _ _ (RV.mfr HV8.out hf9).any); clear z0 z1 z2 z3 z4 z5 z6; obtain ⟨z0, z1, z2, z3, z4, z5, z6⟩ := Ae (hf9.blk hne HZ8.out); clear hm9 hf9)
   go_wp2_with (go_at_call 37; (with_reducible refine (HFL.out).mono ?_); rintro e wz ⟨rfl, hbz⟩; have HBZ := Lib.hid hbz; clear hbz)
   go_ret
   have e1 := hv2.out
   have e2 := hn2.out
   rw [HBX.out] at e2
   try rw [HBX.out] at e1
   simp only [Bool.false_eq_true, if_false, if_true] at e1 e2
   subst e1 e2
   exact ⟨rfl, hi, vs.length - 1, by have := HLEN.out; unfold maxLen; omega, HM9.out.keep HBZ.out, ((MFr.of_below HB08.out).trans HF9.out).trans (MFr.of_below HBZ.out)⟩
theorem NU (vs2 : List VT) (nx2 : Int) (hv2 : Hid (vs2 = if true then vs else vs)) (hn2 : Hid (nx2 = if (Bz vs).bool then x.tgt else nx)) : Calls Tryz.prog 47 #[.pointer (some ⟨M, 0, none⟩), IW x] w (MOp M row vs2 f nx2 (Bf (Bz vs)) w) := by
 have hb0 := Ad (w := w) (BK x)
 have hx0 := Ab w (BK x)
 have HT := Lib.hid (EP M hi row vs c f nx _ (hM.keep hb0) hk hlen)
 have hml := hM.lt
 have HB0 := Lib.hid hb0
 have HMM := Lib.hid hM
 have HC := Lib.hid hc
 have HK := Lib.hid hk
 have HLEN := Lib.hid hlen
 have HX0 := Lib.hid hx0
 have hs0 : (w.alloc (BK x)).heap.size = w.heap.size + 1 := by simp
 clear hM hk hlen hc hb0 hx0
 go_enter Tryz.func47, Tryz.ntmps47
 go_upto_region 1 with (fail)
 generalize w.alloc (BK x) = W at *
 have HS0 := Lib.hid hs0
 clear hs0
 go_upto_region 2 with (go_at_call 34; (with_reducible refine (HT.out).mono ?_); rintro e w7 ⟨v0, v1, v2, v3, v4, v5, rfl, hv, hb7⟩; have HV := Lib.hid hv; have HB7 := Lib.hid hb7; obtain ⟨kx, bx, nx', sx, lx, fx, ax1, cx1, ax2, cx2, hxe, ex, _⟩ := RV.mk_parts hv; simp only [List.cons.injEq, and_true] at ex; obtain ⟨rfl, rfl, rfl, rfl, rfl, rfl⟩ := ex; have HXE := Lib.hid hxe; clear hxe hv hb7)
 have hb8 := Ad (w := w7) (.cells #[.int .u8 kx, .bool bx, .int .i64 nx', .string sx, .slice ax1 lx.len cx1, .slice ax2 fx.len cx2] 27)
 have hz8 := Ab w7 (.cells #[.int .u8 kx, .bool bx, .int .i64 nx', .string sx, .slice ax1 lx.len cx1, .slice ax2 fx.len cx2] 27)
 have hl7 : M < w7.heap.size := by have := HB0.out.size; have := HB7.out.size; omega
 have hx8 := blk hb8 (blk HB7.out HX0.out)
 have hl8 : w.heap.size < w7.heap.size := by have := HB7.out.size; have := HS0.out; omega
 have HB08 := Lib.hid (Aa HB0.out HB0.out.size (Aa HB7.out HB7.out.size hb8))
 have hv8 := RV.keep (Same.of_below hb8) (Nat.le_refl _) hb8.size _ _ HV.out
 generalize w7.alloc (.cells #[.int .u8 kx, .bool bx, .int .i64 nx', .string sx, .slice ax1 lx.len cx1, .slice ax2 fx.len cx2] 27) = w8 at *
 have HV8 := Lib.hid hv8
 have HM8 := Lib.hid (HMM.out.keep HB08.out)
 have HZ8 := Lib.hid hz8
 have HX8 := Lib.hid hx8
 have HBX : Hid ((Bz vs).bool = bx) := Lib.hid (by rw [HXE.out]; rfl)
 obtain ⟨z0, z1, z2, z3, z4, z5, z6⟩ := Ae hz8
 obtain ⟨x0, x1, x2, x3, x4⟩ := AF hx8
 obtain ⟨m7, m8, m9⟩ := HM8.out.cells
 have hne : w7.heap.size ≠ M := by omega
 have hne2 : M ≠ w7.heap.size := by omega
 have hne3 : w.heap.size ≠ M := by omega
 have hne4 : M ≠ w.heap.size := by omega
 clear hb8 hz8 hx8 hv8 HT
 cases bx with
 | true =>
   go_upto_region 4 with (fail)
   have hst := HM8.out.setM x.tgt
   have hfr : MFr M w8 (w8.setCell ⟨M, 8, none⟩ (.int .i64 x.tgt)) := (MFr.refl M w8).cellM
   have hz9 := hfr.blk hne HZ8.out
   have hv9 := RV.mfr HV8.out hfr
   generalize w8.setCell ⟨M, 8, none⟩ (.int .i64 x.tgt) = w9 at *
   have HST := Lib.hid hst.1
   have HFR := Lib.hid hfr
   have HFL := Lib.hid (Bo _ _ _ _ _ _ _ _ hv9.any)
   clear z0 z1 z2 z3 z4 z5 z6 x0 x1 x2 x3 x4 m7 m8 m9 hst hfr hv9
   obtain ⟨z0, z1, z2, z3, z4, z5, z6⟩ := Ae hz9
   clear hz9
   go_wp2_with (go_at_call 37; (with_reducible refine (HFL.out).mono ?_); rintro e wz ⟨rfl, hbz⟩; have HBZ := Lib.hid hbz; clear hbz)
   go_ret
   have e1 := hv2.out
   have e2 := hn2.out
   rw [HBX.out] at e2
   try rw [HBX.out] at e1
   simp only [Bool.false_eq_true, if_false, if_true] at e1 e2
   subst e1 e2
   exact ⟨rfl, hi, c, HC.out, HST.out.keep HBZ.out, ((MFr.of_below HB08.out).trans HFR.out).trans (MFr.of_below HBZ.out)⟩
 | false =>
   have HFL := Lib.hid (Bo _ _ _ _ _ _ _ _ HV8.out.any)
   clear x0 x1 x2 x3 x4 m7 m8 m9
   go_wp2_with (go_at_call 37; (with_reducible refine (HFL.out).mono ?_); rintro e wz ⟨rfl, hbz⟩; have HBZ := Lib.hid hbz; clear hbz)
   go_ret
   have e1 := hv2.out
   have e2 := hn2.out
   rw [HBX.out] at e2
   try rw [HBX.out] at e1
   simp only [Bool.false_eq_true, if_false, if_true] at e1 e2
   subst e1 e2
   exact ⟨rfl, hi, c, HC.out, HM8.out.keep HBZ.out, (MFr.of_below HB08.out).trans (MFr.of_below HBZ.out)⟩
end
/- vm.own, vm.ops. -/
set_option maxHeartbeats 1000000 in
set_option maxRecDepth 100000 in
theorem Mw (t : VT) (v0 v1 v2 v3 v4 v5 : Value) (w : World) (hL : Laid w) (hv : RV w 0 w.heap.size t [v0, v1, v2, v3, v4, v5]) :
  Calls Tryz.prog 33 #[.agg #[v0, v1, v2, v3, v4, v5], .int .i64 0] w (EvPost w (t, 0)) := by
 have HG := Lib.hid (fun (w' : World) (hb : Below w.heap.size w w') => Ma t [] w' [v0, v1, v2, v3, v4, v5] w'.heap.size none 0 (hv.grow hb) (Nat.le_refl _) (hL.below hb) (Nat.zero_le _) (by simp) (Or.inl rfl))
 obtain ⟨kx, bx, nx', sx, lx, fx, ax1, cx1, ax2, cx2, hxe, ex, _⟩ := RV.mk_parts hv
 simp only [List.cons.injEq, and_true] at ex
 obtain ⟨rfl, rfl, rfl, rfl, rfl, rfl⟩ := ex
 have HB := Lib.hid (Aj (w := w) (.cells #[.int .u8 kx, .bool bx, .int .i64 nx', .string sx, .slice ax1 lx.len cx1, .slice ax2 fx.len cx2] 27) Ah)
 have hz := Ab (w.alloc (.cells #[.int .u8 kx, .bool bx, .int .i64 nx', .string sx, .slice ax1 lx.len cx1, .slice ax2 fx.len cx2] 27)) Ah
 have hx := Af (o := Ah) (Ab w (.cells #[.int .u8 kx, .bool bx, .int .i64 nx', .string sx, .slice ax1 lx.len cx1, .slice ax2 fx.len cx2] 27))
 have hs : (w.alloc (.cells #[.int .u8 kx, .bool bx, .int .i64 nx', .string sx, .slice ax1 lx.len cx1, .slice ax2 fx.len cx2] 27)).heap.size = w.heap.size + 1 := by simp
 rw [hs] at hz
 have hg : B5 (.mk kx bx nx' sx lx fx) [] = some (.mk kx bx nx' sx lx fx) := rfl
 subst hxe
 rw [hg] at HG
 clear hv hs hg
 go_enter Tryz.func33, Tryz.ntmps33
 go_upto_region 1 with (fail)
 generalize (w.alloc (.cells #[.int .u8 kx, .bool bx, .int .i64 nx', .string sx, .slice ax1 lx.len cx1, .slice ax2 fx.len cx2] 27)).alloc Ah = W at *
 have HZ := Lib.hid hz
 obtain ⟨x0, x1, x2, x3, x4, x5, x6⟩ := Ae hx
 clear hz hx
 go_upto_region 4 with (go_at_call 50; refine (HG.out _ HB.out).mono ?_; rintro e w7 ⟨hb7, k', b', n', s', b1, l1, d1, b2, l2, d2, rfl, hv7⟩; have HB7 := Lib.hid hb7; have HV7 := Lib.hid hv7; clear hb7 hv7)
 have hb8 := Ad (w := w7) (.cells #[.int .u8 k', .bool b', .int .i64 n', .string s', .slice b1 l1 d1, .slice b2 l2 d2] 27)
 have hy8 := Ab w7 (.cells #[.int .u8 k', .bool b', .int .i64 n', .string s', .slice b1 l1 d1, .slice b2 l2 d2] 27)
 have hz8 := blk hb8 (blk HB7.out HZ.out)
 have lw : w.heap.size + 1 < w7.heap.size := lt_of_block (blk HB7.out HZ.out)
 have lW : w.heap.size + 1 < W.heap.size := lt_of_block HZ.out
 have HB8 := Lib.hid (Aa HB.out HB.out.size (Aa HB7.out HB7.out.size hb8))
 have HV8 := Lib.hid (RV.keep (Same.of_below hb8) (Nat.le_refl _) hb8.size _ _ HV7.out)
 generalize w7.alloc (.cells #[.int .u8 k', .bool b', .int .i64 n', .string s', .slice b1 l1 d1, .slice b2 l2 d2] 27) = w8 at *
 clear x0 x1 x2 x3 x4 x5 x6 hb8
 obtain ⟨z0, z1, z2, z3, z4, z5, z6⟩ := Ae hz8
 obtain ⟨x0, x1, x2, x3, x4, x5, x6⟩ := Ae hy8
 clear hz8 hy8
 go_wp2_with fail
 refine bodyPost_ret (v := .tuple #[.agg #[.int .u8 k', .bool b', .int .i64 n', .string s', .slice b1 l1 d1, .slice b2 l2 d2], .int .i64 0]) (by simp [results, Tryz.results33, go_sem, Ai, z0, z1, z2, z3, z4, z5]) rfl ?_
 exact ⟨Ag (Nat.le_succ _) [_, _, _, _, _, _] 0 _ HB8.out, _, _, _, _, _, _, rfl, RV.above (us := [_, _, _, _, _, _]) HV8.out (by omega) (by omega) (Below.refl _ _)⟩
def opF (k : Int) : Option FuncId := if k = 1 then some 45 else if k = 2 then some 46 else if k = 4 then some 47 else if k = 3 then some 48 else if k = 5 then some 49 else none
abbrev fv (n : FuncId) : Value := .func (.func n) #[] #[]
abbrev EX : Array MapEntry := #[{ key := .int .u8 1, val := fv 45, born := 0 }, { key := .int .u8 2, val := fv 46, born := 1 }, { key := .int .u8 4, val := fv 47, born := 2 }, { key := .int .u8 3, val := fv 48, born := 3 }, { key := .int .u8 5, val := fv 49, born := 4 }]
theorem Tryz.underMO : Tryz.prog.underlying 79 = some (.map 70 81) := by kernel_rfl
theorem Tryz.underO : Tryz.prog.underlying 70 = some (.int .u8) := by kernel_rfl
theorem Ew (w : World) (es : Array MapEntry) (c : Nat) (k : Int) (v : Value) (h : Instr.findNow (.int .u8) (.int .u8 k) es.toList 0 = some none) :
  (Instr.mapUpdate 79 (.map (some w.heap.size)) (.int .u8 k) v).run Tryz.prog (w.alloc (.map es c)) = .ok () (w.alloc (.map (es.push { key := .int .u8 k, val := v, born := c }) (c + 1))) := by
 have hf : (Instr.findKey 70 (.int .u8 k) es.toList).run Tryz.prog (w.alloc (.map es c)) = .ok none (w.alloc (.map es c)) := MapKept.run_findKey Tryz.underO h
 have hck := fun e => MapKept.run_checkKey (P := Tryz.prog) (w := w.alloc (.map es c)) (kt := 70) (k := .int .u8 k) Tryz.underO rfl e 9999
 simp [Instr.mapUpdate, run_underlying Tryz.underMO, MapKept.run_getObj_map (Ab w _), hck, hf, MapKept.run_setObj_map _ (Ab w _), Result.andThen]
 exact Ic w _ _
theorem Oy {w : World} {m c : Nat} (hm : w.heap[m]? = some (.map EX c)) (k : Int) (n : FuncId) (h : opF k = some n) : (Instr.lookup 79 (.map (some m)) (.int .u8 k) false).run Tryz.prog w = .ok (fv n) w := by
 have hck := fun e => MapKept.run_checkKey (P := Tryz.prog) (w := w) (kt := 70) (k := .int .u8 k) Tryz.underO rfl e 9999
 have hk : k = 1 ∨ k = 2 ∨ k = 4 ∨ k = 3 ∨ k = 5 := by
  unfold opF at h
  by_cases h1 : k = 1
  · exact Or.inl h1
  by_cases h2 : k = 2
  · exact Or.inr (Or.inl h2)
  by_cases h3 : k = 4
  · exact Or.inr (Or.inr (Or.inl h3))
  by_cases h4 : k = 3
  · exact Or.inr (Or.inr (Or.inr (Or.inl h4)))
  by_cases h5 : k = 5
  · exact Or.inr (Or.inr (Or.inr (Or.inr h5)))
  rw [if_neg h1, if_neg h2, if_neg h3, if_neg h4, if_neg h5] at h
  cases h
 have hfind : ∃ i, Instr.findNow (.int .u8) (.int .u8 k) EX.toList 0 = some (some (i, fv n)) := by
  rcases hk with rfl | rfl | rfl | rfl | rfl
  · cases h; exact ⟨0, rfl⟩
  · cases h; exact ⟨1, rfl⟩
  · cases h; exact ⟨2, rfl⟩
  · cases h; exact ⟨3, rfl⟩
  · cases h; exact ⟨4, rfl⟩
 obtain ⟨i, hi⟩ := hfind
 have hf : (Instr.findKey 70 (.int .u8 k) EX.toList).run Tryz.prog w = .ok (some (i, fv n)) w := MapKept.run_findKey Tryz.underO hi
 unfold Instr.lookup
 simp only [Sem.run_bind, run_underlying Tryz.underMO, MapKept.run_getObj_map hm, hck, hf, Result.andThen, Sem.run_pure, Result.andThen_ok]
 rfl
set_option maxHeartbeats 1000000 in
set_option maxRecDepth 100000 in
theorem Oi (w : World) : Calls Tryz.prog 32 #[] w fun e w' => e = .returned (.map (some w.heap.size)) ∧ w' = w.alloc (.map EX 5) := by
 have hmm := @run_makeMap Tryz.prog
 have i1 := Ew w #[] 0 1 (fv 45) rfl
 have i2 := Ew w #[{ key := .int .u8 1, val := fv 45, born := 0 }] 1 2 (fv 46) rfl
 have i3 := Ew w #[{ key := .int .u8 1, val := fv 45, born := 0 }, { key := .int .u8 2, val := fv 46, born := 1 }] 2 4 (fv 47) rfl
 have i4 := Ew w #[{ key := .int .u8 1, val := fv 45, born := 0 }, { key := .int .u8 2, val := fv 46, born := 1 }, { key := .int .u8 4, val := fv 47, born := 2 }] 3 3 (fv 48) rfl
 have i5 := Ew w #[{ key := .int .u8 1, val := fv 45, born := 0 }, { key := .int .u8 2, val := fv 46, born := 1 }, { key := .int .u8 4, val := fv 47, born := 2 }, { key := .int .u8 3, val := fv 48, born := 3 }] 4 5 (fv 49) rfl
 go_enter Tryz.func32, Tryz.ntmps32
 go_wp2_with fail
 go_ret
 exact ⟨rfl, rfl⟩
end Go.Proofs.YtbemgcjckchdjaaGreatDoor
