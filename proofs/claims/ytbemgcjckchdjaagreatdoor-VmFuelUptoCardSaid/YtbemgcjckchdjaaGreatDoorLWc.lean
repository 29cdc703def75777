import Derived.Test.YtbemgcjckchdjaaGreatDoorLGm
import Derived.Test.YtbemgcjckchdjaaGreatDoorLCl
import Derived.Test.YtbemgcjckchdjaaGreatDoorLUa
/- codicillaw14.VmFuel: the walk (printed by genfuel.py). -/
namespace Go.Proofs.YtbemgcjckchdjaaGreatDoor
open Go.RowKit
set_option linter.unusedSimpArgs false
set_option linter.unusedVariables false
set_option maxHeartbeats 4000000
set_option maxRecDepth 100000
section
variable (p : List IT) (A : Option Addr) (c0 : Nat) (row : VT) (r0 r1 r2 r3 r4 r5 : Value) (more : Int) (w : World) (hL : Laid w) (hlen : p.length ≤ LIM) (hst : ∀ x ∈ p, Be x.s) (hp : RowI w p A) (hr : RV w 0 w.heap.size row [r0, r1, r2, r3, r4, r5])
include hL hlen hst hp hr
theorem KC (hq : AL p ≠ 0 ∨ (AL p = 0 ∧ Ao row 0 ≠ 0)) : Calls Tryz.prog 5 #[.slice A p.length c0, .agg #[r0, r1, r2, r3, r4, r5], .int .i64 more] w fun e w' => e = .returned (.bool true) ∧ Below w.heap.size w w' := by
 obtain ⟨y, hrv, hy, hd⟩ : ∃ y, BC p row p.length = ((Am, y), 0) ∧ (y != 0) = true ∧ ((AL p != 0) = true ∨ ((AL p != 0) = false ∧ (Ao row 0 != 0) = true)) := by
   rcases hq with h | ⟨h1, h2⟩
   · exact ⟨_, Oo h, by simpa using h, Or.inl (by simpa using h)⟩
   · exact ⟨_, Oq h1 h2, by simpa using h2, Or.inr ⟨by simpa using h1, by simpa using h2⟩⟩
 have hrn := fun (w' : World) (hb : Below w.heap.size w w') => O7 p A c0 row p.length r0 r1 r2 r3 r4 r5 w' hlen hst (hL.below hb) (hp.keep hb) (hr.grow hb)
 rw [hrv] at hrn
 have HRN := Lib.hid hrn
 have hr0 := hr
 obtain ⟨kr, br, nr, sr, lr, fr, ar1, cr1, ar2, cr2, hre, er, hjx⟩ := RV.mk_parts hr
 simp only [List.cons.injEq, and_true] at er
 obtain ⟨rfl, rfl, rfl, rfl, rfl, rfl⟩ := er
 have hb0 := Ad (w := w) (.cells #[.int .u8 kr, .bool br, .int .i64 nr, .string sr, .slice ar1 lr.len cr1, .slice ar2 fr.len cr2] 27)
 have hxb := Ct (w := w.alloc (.cells #[.int .u8 kr, .bool br, .int .i64 nr, .string sr, .slice ar1 lr.len cr1, .slice ar2 fr.len cr2] 27)) rfl hr0
 have HLV := Lib.hid (Ca _ (hL.below hb0))
 have HB0 := Lib.hid hb0
 have HX0 := Lib.hid hxb
 have HP0 := Lib.hid (hp.keep hb0)
 have HCV := Lib.hid (fun (w' : World) (hb : Below w.heap.size w w') => Bu row w' _ 0 w'.heap.size (hr0.grow hb) (Nat.le_refl _) (hL.below hb).tabs)
 have HCC := Lib.hid (fun (w' : World) (hb : Below w.heap.size w w') => Bv p A c0 w' hlen hst (hL.below hb) (hp.keep hb))
 unfold Ey at HCC
 clear hb0 hxb hjx hre
 generalize AL p = ck at *
 generalize Ao row 0 = cv at *
 clear hrn hrv hq hL hst hp hr hr0 hlen
 generalize p.length = n at *
 go_enter Tryz.func5, Tryz.ntmps5
 go_upto_region 3 with (go_at_call 13; (with_reducible refine (HLV.out).mono ?_); rintro e w1 ⟨rfl, hb1⟩; have HB1 := Lib.hid (Aa HB0.out HB0.out.size hb1); have HX1 := Lib.hid (HX0.out.keep hb1); have HP1 := Lib.hid (HP0.out.keep hb1); clear hb1)
 clear HLV HB0 HX0 HP0
 obtain ⟨x0, x1, x2, x3, x4, x5, x6⟩ := Ae HX1.out.1
 go_upto_region 4 with (go_at_call 15; (with_reducible refine (HRN.out _ HB1.out).mono ?_); intro e w2 hrn; obtain ⟨hb2, a2, c2, b2, e2, rfl, hv2⟩ := hrn.parts (m := 0) rfl; have HB2 := Lib.hid (Aa HB1.out HB1.out.size hb2); have HX2 := Lib.hid (HX1.out.keep hb2); have HV2 := Lib.hid hv2; clear hb2 hv2 hrn x0 x1 x2 x3 x4 x5 x6)
 have hbn := Ad (w := w2) (.cells #[.int .u8 0, .bool false, .int .i64 0, .string Ez, .slice a2 VL.nil.len c2, .slice b2 FL.nil.len e2] 27)
 have hx3 := HX2.out.keep hbn
 have hb3 := Aa HB2.out HB2.out.size hbn
 generalize w2.alloc (.cells #[.int .u8 0, .bool false, .int .i64 0, .string Ez, .slice a2 VL.nil.len c2, .slice b2 FL.nil.len e2] 27) = w3 at *
 generalize w2.heap.size = g2 at *
 have HX3 := Lib.hid hx3
 have HB3 := Lib.hid hb3
 clear hx3 hb3 hbn HB1 HX1 HB2 HX2 HV2
 rcases hd with q1 | ⟨q1, q2⟩
 · go_wp2_with (go_at_call 16; (with_reducible refine (HCC.out _ HB3.out).mono ?_); rintro e w4 ⟨rfl, hb4⟩; have HB4 := Lib.hid (Aa HB3.out HB3.out.size hb4); clear hb4)
   go_ret
   exact ⟨rfl, HB4.out⟩
 · go_wp2_with (first | (go_at_call 16; (with_reducible refine (HCC.out _ HB3.out).mono ?_); rintro e w4 ⟨rfl, hb4⟩; have HB4 := Lib.hid (Aa HB3.out HB3.out.size hb4); have HX4 := Lib.hid (HX3.out.keep hb4); clear hb4; obtain ⟨x0, x1, x2, x3, x4, x5, x6⟩ := Ae HX4.out.1) | (go_at_call 17; (with_reducible refine (HCV.out _ HB4.out).mono ?_); rintro e w5 ⟨rfl, hb5⟩; have HB5 := Lib.hid (Aa HB4.out HB4.out.size hb5); clear hb5 x0 x1 x2 x3 x4 x5 x6))
   go_ret
   exact ⟨rfl, HB5.out⟩
theorem Pz (hpk : AL p = 0) (hck : Ao row 0 = 0) (hm : more < 1 ∨ 1000 < more) : Calls Tryz.prog 5 #[.slice A p.length c0, .agg #[r0, r1, r2, r3, r4, r5], .int .i64 more] w fun e w' => e = .returned (.bool true) ∧ Below w.heap.size w w' := by
 obtain ⟨⟨t, y⟩, left, h16, hlt, h256, hrv, _, _, _⟩ := Ff hpk hck
 have q4 : (y == 16) = false := by simpa using h16
 have q5 : (y != 16) = true := by simpa using h16
 have hd : decide (more < 1) = true ∨ (decide (more < 1) = false ∧ decide (1000 < more) = true) := by
  by_cases h : more < 1
  · exact Or.inl (decide_eq_true h)
  · exact Or.inr ⟨decide_eq_false h, decide_eq_true (by omega)⟩
 have hrn := fun (w' : World) (hb : Below w.heap.size w w') => O7 p A c0 row p.length r0 r1 r2 r3 r4 r5 w' hlen hst (hL.below hb) (hp.keep hb) (hr.grow hb)
 rw [hrv] at hrn
 obtain ⟨kt, bt, nt, st, lt, ft⟩ := t
 have HRN := Lib.hid hrn
 have hr0 := hr
 obtain ⟨kr, br, nr, sr, lr, fr, ar1, cr1, ar2, cr2, hre, er, hjx⟩ := RV.mk_parts hr
 simp only [List.cons.injEq, and_true] at er
 obtain ⟨rfl, rfl, rfl, rfl, rfl, rfl⟩ := er
 have hb0 := Ad (w := w) (.cells #[.int .u8 kr, .bool br, .int .i64 nr, .string sr, .slice ar1 lr.len cr1, .slice ar2 fr.len cr2] 27)
 have hxb := Ct (w := w.alloc (.cells #[.int .u8 kr, .bool br, .int .i64 nr, .string sr, .slice ar1 lr.len cr1, .slice ar2 fr.len cr2] 27)) rfl hr0
 have HLV := Lib.hid (Ca _ (hL.below hb0))
 have HB0 := Lib.hid hb0
 have HX0 := Lib.hid hxb
 have HP0 := Lib.hid (hp.keep hb0)
 have HCV := Lib.hid (fun (w' : World) (hb : Below w.heap.size w w') => Bu row w' _ 0 w'.heap.size (hr0.grow hb) (Nat.le_refl _) (hL.below hb).tabs)
 have HCC := Lib.hid (fun (w' : World) (hb : Below w.heap.size w w') => Bv p A c0 w' hlen hst (hL.below hb) (hp.keep hb))
 unfold Ey at HCC
 clear hb0 hxb hjx hre
 rw [hpk] at HCC
 rw [hck] at HCV
 clear hrn hrv hL hst hp hr hr0 hlen hpk hck h16 hlt h256 hm
 generalize p.length = n at *
 go_enter Tryz.func5, Tryz.ntmps5
 go_upto_region 3 with (go_at_call 13; (with_reducible refine (HLV.out).mono ?_); rintro e w1 ⟨rfl, hb1⟩; have HB1 := Lib.hid (Aa HB0.out HB0.out.size hb1); have HX1 := Lib.hid (HX0.out.keep hb1); have HP1 := Lib.hid (HP0.out.keep hb1); clear hb1)
 clear HLV HB0 HX0 HP0
 obtain ⟨x0, x1, x2, x3, x4, x5, x6⟩ := Ae HX1.out.1
 go_upto_region 4 with (go_at_call 15; (with_reducible refine (HRN.out _ HB1.out).mono ?_); intro e w2 hrn; obtain ⟨hb2, a2, c2, b2, e2, rfl, hv2⟩ := hrn.parts (m := left) rfl; have HB2 := Lib.hid (Aa HB1.out HB1.out.size hb2); have HX2 := Lib.hid (HX1.out.keep hb2); have HV2 := Lib.hid hv2; clear hb2 hv2 hrn x0 x1 x2 x3 x4 x5 x6)
 have hbn := Ad (w := w2) (.cells #[.int .u8 kt, .bool bt, .int .i64 nt, .string st, .slice a2 lt.len c2, .slice b2 ft.len e2] 27)
 have hx3 := HX2.out.keep hbn
 have hb3 := Aa HB2.out HB2.out.size hbn
 generalize w2.alloc (.cells #[.int .u8 kt, .bool bt, .int .i64 nt, .string st, .slice a2 lt.len c2, .slice b2 ft.len e2] 27) = w3 at *
 generalize w2.heap.size = g2 at *
 have HX3 := Lib.hid hx3
 have HB3 := Lib.hid hb3
 clear hx3 hb3 hbn HB1 HX1 HB2 HX2 HV2
 go_upto_region 6 with (first | (go_at_call 16; (with_reducible refine (HCC.out _ HB3.out).mono ?_); rintro e w4 ⟨rfl, hb4⟩; have HB4 := Lib.hid (Aa HB3.out HB3.out.size hb4); have HX4 := Lib.hid (HX3.out.keep hb4); clear hb4; obtain ⟨x0, x1, x2, x3, x4, x5, x6⟩ := Ae HX4.out.1) | (go_at_call 17; (with_reducible refine (HCV.out _ HB4.out).mono ?_); rintro e w5 ⟨rfl, hb5⟩; have HB5 := Lib.hid (Aa HB4.out HB4.out.size hb5); clear hb5 x0 x1 x2 x3 x4 x5 x6))
 rcases hd with q1 | ⟨q1, q2⟩
 all_goals
  go_wp2_with fail
  go_ret
  exact ⟨rfl, HB5.out⟩
theorem NJ (hpk : AL p = 0) (hck : Ao row 0 = 0) (hm1 : 1 ≤ more) (hm2 : more ≤ 1000) : Calls Tryz.prog 5 #[.slice A p.length c0, .agg #[r0, r1, r2, r3, r4, r5], .int .i64 more] w fun e w' => e = .returned (.bool true) ∧ Below w.heap.size w w' := by
 obtain ⟨⟨t, y⟩, left, h16, hlt, h256, hrv, hrm, hrt, hru⟩ := Ff hpk hck
 have hrm := hrm more hm1 hm2
 have q4 : (y == 16) = false := by simpa using h16
 have q1 : decide (more < 1) = false := decide_eq_false (by omega)
 have q2 : decide (1000 < more) = false := decide_eq_false (by omega)
 have hrc := fun (fuel : Int) (w' : World) (hb : Below w.heap.size w w') => O7 p A c0 row fuel r0 r1 r2 r3 r4 r5 w' hlen hst (hL.below hb) (hp.keep hb) (hr.grow hb)
 have hrn := hrc p.length
 have hrmm := hrc (p.length + more)
 have hrtt := hrc (p.length - left)
 have hruu := hrc (p.length - left - 1)
 rw [hrv] at hrn
 rw [hrm] at hrmm
 rw [hrt] at hrtt
 rw [hru] at hruu
 have w1 : IntKind.i64.wrap ((p.length : Int) + more) = (p.length : Int) + more := IntWalk.i64_in _ (by omega)
 have w2 : IntKind.i64.wrap ((left : Int) + more) = (left : Int) + more := IntWalk.i64_in _ (by omega)
 have w3 : IntKind.i64.wrap ((p.length : Int) - left) = (p.length : Int) - left := IntWalk.i64_in _ (by omega)
 have w4 : IntKind.i64.wrap ((p.length : Int) - left - 1) = (p.length : Int) - left - 1 := IntWalk.i64_in _ (by omega)
 have hml : ((left + more.toNat : Nat) : Int) = (left : Int) + more := by omega
 obtain ⟨kt, bt, nt, st, lt, ft⟩ := t
 have HRN := Lib.hid hrn
 have HRM := Lib.hid hrmm
 have HRT := Lib.hid hrtt
 have HRU := Lib.hid hruu
 have hr0 := hr
 obtain ⟨kr, br, nr, sr, lr, fr, ar1, cr1, ar2, cr2, hre, er, hjx⟩ := RV.mk_parts hr
 simp only [List.cons.injEq, and_true] at er
 obtain ⟨rfl, rfl, rfl, rfl, rfl, rfl⟩ := er
 have hb0 := Ad (w := w) (.cells #[.int .u8 kr, .bool br, .int .i64 nr, .string sr, .slice ar1 lr.len cr1, .slice ar2 fr.len cr2] 27)
 have hxb := Ct (w := w.alloc (.cells #[.int .u8 kr, .bool br, .int .i64 nr, .string sr, .slice ar1 lr.len cr1, .slice ar2 fr.len cr2] 27)) rfl hr0
 have HLV := Lib.hid (Ca _ (hL.below hb0))
 have HB0 := Lib.hid hb0
 have HX0 := Lib.hid hxb
 have HP0 := Lib.hid (hp.keep hb0)
 have HCV := Lib.hid (fun (w' : World) (hb : Below w.heap.size w w') => Bu row w' _ 0 w'.heap.size (hr0.grow hb) (Nat.le_refl _) (hL.below hb).tabs)
 have HCC := Lib.hid (fun (w' : World) (hb : Below w.heap.size w w') => Bv p A c0 w' hlen hst (hL.below hb) (hp.keep hb))
 unfold Ey at HCC
 clear hb0 hxb hjx hre
 rw [hpk] at HCC
 rw [hck] at HCV
 clear hrn hrmm hrtt hruu hrc hrv hrm hrt hru hL hst hp hr hr0 hlen hpk hck h16 hlt h256 hm1 hm2
 generalize p.length = n at *
 go_enter Tryz.func5, Tryz.ntmps5
 go_upto_region 3 with (go_at_call 13; (with_reducible refine (HLV.out).mono ?_); rintro e w1 ⟨rfl, hb1⟩; have HB1 := Lib.hid (Aa HB0.out HB0.out.size hb1); have HX1 := Lib.hid (HX0.out.keep hb1); have HP1 := Lib.hid (HP0.out.keep hb1); clear hb1)
 clear HLV HB0 HX0 HP0
 obtain ⟨x0, x1, x2, x3, x4, x5, x6⟩ := Ae HX1.out.1
 go_upto_region 4 with (go_at_call 15; (with_reducible refine (HRN.out _ HB1.out).mono ?_); intro e w2 hrn; obtain ⟨hb2, a2, c2, b2, e2, rfl, hv2⟩ := hrn.parts (m := left) rfl; have HB2 := Lib.hid (Aa HB1.out HB1.out.size hb2); have HX2 := Lib.hid (HX1.out.keep hb2); have HV2 := Lib.hid hv2; clear hb2 hv2 hrn x0 x1 x2 x3 x4 x5 x6)
 have hbn := Ad (w := w2) (.cells #[.int .u8 kt, .bool bt, .int .i64 nt, .string st, .slice a2 lt.len c2, .slice b2 ft.len e2] 27)
 have hbx := Ct (w := w2.alloc (.cells #[.int .u8 kt, .bool bt, .int .i64 nt, .string st, .slice a2 lt.len c2, .slice b2 ft.len e2] 27)) rfl HV2.out
 have hx3 := HX2.out.keep hbn
 have hb3 := Aa HB2.out HB2.out.size hbn
 generalize w2.alloc (.cells #[.int .u8 kt, .bool bt, .int .i64 nt, .string st, .slice a2 lt.len c2, .slice b2 ft.len e2] 27) = w3 at *
 generalize w2.heap.size = g2 at *
 have HX3 := Lib.hid hx3
 have HB3 := Lib.hid hb3
 have HE2_3 := Lib.hid hbx
 clear hx3 hb3 hbn HB1 HX1 HB2 HX2 HV2 hbx
 go_upto_region 8 with (first | (go_at_call 16; (with_reducible refine (HCC.out _ HB3.out).mono ?_); rintro e w4' ⟨rfl, hb4⟩; have HB4 := Lib.hid (Aa HB3.out HB3.out.size hb4); have HX4 := Lib.hid (HX3.out.keep hb4); have HE2_4 := Lib.hid (HE2_3.out.keep hb4); clear hb4; obtain ⟨x0, x1, x2, x3, x4, x5, x6⟩ := Ae HX4.out.1) | (go_at_call 17; (with_reducible refine (HCV.out _ HB4.out).mono ?_); rintro e w5 ⟨rfl, hb5⟩; have HB5 := Lib.hid (Aa HB4.out HB4.out.size hb5); have HX5 := Lib.hid (HX4.out.keep hb5); have HE2_5 := Lib.hid (HE2_4.out.keep hb5); clear hb5 x0 x1 x2 x3 x4 x5 x6))
 clear HCC HCV HB3 HX3 HE2_3 HB4 HX4 HE2_4
 obtain ⟨x0, x1, x2, x3, x4, x5, x6⟩ := Ae HX5.out.1
 go_upto_region 9 with (go_at_call 15; (with_reducible refine (HRM.out _ HB5.out).mono ?_); intro e w6 hrn; obtain ⟨hb6, a6, c6, b6, e6, rfl, hv6⟩ := hrn.parts (m := (left : Int) + more) hml; have HB6 := Lib.hid (Aa HB5.out HB5.out.size hb6); have HX6 := Lib.hid (HX5.out.keep hb6); have HE2_6 := Lib.hid (HE2_5.out.keep hb6); have HV6 := Lib.hid hv6; clear hb6 hv6 hrn x0 x1 x2 x3 x4 x5 x6)
 have hbn := Ad (w := w6) (.cells #[.int .u8 kt, .bool bt, .int .i64 nt, .string st, .slice a6 lt.len c6, .slice b6 ft.len e6] 27)
 have hbx := Ct (w := w6.alloc (.cells #[.int .u8 kt, .bool bt, .int .i64 nt, .string st, .slice a6 lt.len c6, .slice b6 ft.len e6] 27)) rfl HV6.out
 have hx7 := HX6.out.keep hbn
 have he2 := HE2_6.out.keep hbn
 have hb7 := Aa HB6.out HB6.out.size hbn
 generalize w6.alloc (.cells #[.int .u8 kt, .bool bt, .int .i64 nt, .string st, .slice a6 lt.len c6, .slice b6 ft.len e6] 27) = w7 at *
 generalize w6.heap.size = g6 at *
 have HX7 := Lib.hid hx7
 have HB7 := Lib.hid hb7
 have HE2_7 := Lib.hid he2
 have HE6_7 := Lib.hid hbx
 clear hx7 hb7 hbn HB5 HX5 HB6 HX6 HV6 hbx he2 HE2_5 HE2_6
 obtain ⟨y0, y1, y2, y3, y4, y5, y6⟩ := Ae HE2_7.out.1
 obtain ⟨z0, z1, z2, z3, z4, z5, z6⟩ := Ae HE6_7.out.1
 have hsm := Hk _ _ w7 _ _ w7.heap.size HE2_7.out.2 HE6_7.out.2 (Nat.le_refl _)
 rw [CU] at hsm
 have HSM := Lib.hid hsm
 clear hsm
 go_upto_region 12 with (go_at_call 11; (with_reducible refine (HSM.out).mono ?_); rintro e w8 ⟨rfl, hb8⟩; have HB8 := Lib.hid (Aa HB7.out HB7.out.size hb8); have HX8 := Lib.hid (HX7.out.keep hb8); have HE2_8 := Lib.hid (HE2_7.out.keep hb8); clear hb8 y0 y1 y2 y3 y4 y5 y6 z0 z1 z2 z3 z4 z5 z6)
 clear HB7 HX7 HE2_7 HE6_7 HSM HRM HRN
 obtain ⟨x0, x1, x2, x3, x4, x5, x6⟩ := Ae HX8.out.1
 go_upto_region 13 with (go_at_call 15; (with_reducible refine (HRT.out _ HB8.out).mono ?_); intro e w9 hrn; obtain ⟨hb9, a9, c9, b9, e9, rfl, hv9⟩ := hrn.parts (m := 0) rfl; have HB9 := Lib.hid (Aa HB8.out HB8.out.size hb9); have HX9 := Lib.hid (HX8.out.keep hb9); have HE2_9 := Lib.hid (HE2_8.out.keep hb9); have HV9 := Lib.hid hv9; clear hb9 hv9 hrn x0 x1 x2 x3 x4 x5 x6)
 have hbn := Ad (w := w9) (.cells #[.int .u8 kt, .bool bt, .int .i64 nt, .string st, .slice a9 lt.len c9, .slice b9 ft.len e9] 27)
 have hbx := Ct (w := w9.alloc (.cells #[.int .u8 kt, .bool bt, .int .i64 nt, .string st, .slice a9 lt.len c9, .slice b9 ft.len e9] 27)) rfl HV9.out
 have hx10 := HX9.out.keep hbn
 have he2 := HE2_9.out.keep hbn
 have hb10 := Aa HB9.out HB9.out.size hbn
 generalize w9.alloc (.cells #[.int .u8 kt, .bool bt, .int .i64 nt, .string st, .slice a9 lt.len c9, .slice b9 ft.len e9] 27) = w10 at *
 generalize w9.heap.size = g9 at *
 have HX10 := Lib.hid hx10
 have HB10 := Lib.hid hb10
 have HE2_10 := Lib.hid he2
 have HE9_10 := Lib.hid hbx
 clear hx10 hb10 hbn HB8 HX8 HB9 HX9 HV9 hbx he2 HE2_8 HE2_9
 obtain ⟨x0, x1, x2, x3, x4, x5, x6⟩ := Ae HX10.out.1
 go_upto_region 14 with (go_at_call 15; (with_reducible refine (HRU.out _ HB10.out).mono ?_); intro e w11 hrn; obtain ⟨hb11, a11, c11, b11, e11, rfl, hv11⟩ := hrn.parts (m := 0) rfl; have HB11 := Lib.hid (Aa HB10.out HB10.out.size hb11); have HX11 := Lib.hid (HX10.out.keep hb11); have HE2_11 := Lib.hid (HE2_10.out.keep hb11); have HE9_11 := Lib.hid (HE9_10.out.keep hb11); have HV11 := Lib.hid hv11; clear hb11 hv11 hrn x0 x1 x2 x3 x4 x5 x6)
 have hbn := Ad (w := w11) (.cells #[.int .u8 0, .bool false, .int .i64 0, .string Ez, .slice a11 VL.nil.len c11, .slice b11 FL.nil.len e11] 27)
 have hx12 := HX11.out.keep hbn
 have he2 := HE2_11.out.keep hbn
 have he9 := HE9_11.out.keep hbn
 have hb12 := Aa HB11.out HB11.out.size hbn
 generalize w11.alloc (.cells #[.int .u8 0, .bool false, .int .i64 0, .string Ez, .slice a11 VL.nil.len c11, .slice b11 FL.nil.len e11] 27) = w12 at *
 generalize w11.heap.size = g11 at *
 have HX12 := Lib.hid hx12
 have HB12 := Lib.hid hb12
 have HE2_12 := Lib.hid he2
 have HE9_12 := Lib.hid he9
 clear hx12 hb12 hbn HB10 HX10 HB11 HX11 HV11 he2 HE2_10 HE2_11 he9 HE9_10 HE9_11
 obtain ⟨y0, y1, y2, y3, y4, y5, y6⟩ := Ae HE2_12.out.1
 obtain ⟨z0, z1, z2, z3, z4, z5, z6⟩ := Ae HE9_12.out.1
 have hsm := Hk _ _ w12 _ _ w12.heap.size HE2_12.out.2 HE9_12.out.2 (Nat.le_refl _)
 rw [CU] at hsm
 have HSM := Lib.hid hsm
 clear hsm
 go_wp2_with (go_at_call 11; (with_reducible refine (HSM.out).mono ?_); rintro e w13 ⟨rfl, hb13⟩; have HB13 := Lib.hid (Aa HB12.out HB12.out.size hb13); clear hb13)
 go_ret
 exact ⟨rfl, HB13.out⟩
end
theorem MB (p : List IT) (A : Option Addr) (c0 : Nat) (row : VT) (r0 r1 r2 r3 r4 r5 : Value) (more : Int) (w : World) (hL : Laid w) (hlen : p.length ≤ LIM) (hst : ∀ x ∈ p, Be x.s) (hp : RowI w p A) (hr : RV w 0 w.heap.size row [r0, r1, r2, r3, r4, r5]) :
   Calls Tryz.prog 5 #[.slice A p.length c0, .agg #[r0, r1, r2, r3, r4, r5], .int .i64 more] w fun e w' => e = .returned (.bool true) ∧ Below w.heap.size w w' := by
 by_cases hpk : AL p = 0
 · by_cases hck : Ao row 0 = 0
   · by_cases hm : more < 1 ∨ 1000 < more
     · exact Pz p A c0 row r0 r1 r2 r3 r4 r5 more w hL hlen hst hp hr hpk hck hm
     · exact NJ p A c0 row r0 r1 r2 r3 r4 r5 more w hL hlen hst hp hr hpk hck (by omega) (by omega)
   · exact KC p A c0 row r0 r1 r2 r3 r4 r5 more w hL hlen hst hp hr (Or.inr ⟨hpk, hck⟩)
 · exact KC p A c0 row r0 r1 r2 r3 r4 r5 more w hL hlen hst hp hr (Or.inl hpk)
end Go.Proofs.YtbemgcjckchdjaaGreatDoor
