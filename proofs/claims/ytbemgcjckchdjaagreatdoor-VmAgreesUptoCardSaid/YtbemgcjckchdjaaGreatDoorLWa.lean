import Derived.Test.YtbemgcjckchdjaaGreatDoorLGm
import Derived.Test.YtbemgcjckchdjaaGreatDoorLCm
import Derived.Test.YtbemgcjckchdjaaGreatDoorLMd
import Derived.Test.YtbemgcjckchdjaaGreatDoorLUa
/- codicillaw14.VmAgrees: the walk. -/
namespace Go.Proofs.YtbemgcjckchdjaaGreatDoor
open Go.RowKit
set_option linter.unusedSimpArgs false
set_option linter.unusedVariables false
set_option maxHeartbeats 4000000
set_option maxRecDepth 100000
section
variable (l : List ST) (A0 : Option Addr) (c0 : Nat) (row : VT) (r0 r1 r2 r3 r4 r5 : Value) (w : World) (hL : Laid w) (hlen : l.length ≤ LIM) (hst : ∀ s ∈ l, Be s) (hrow : RowS w l A0) (hr : RV w 0 w.heap.size row [r0, r1, r2, r3, r4, r5])
include hL hlen hst hrow hr
theorem N5 (hri : Av l = false) : Calls Tryz.prog 6 #[.slice A0 l.length c0, .agg #[r0, r1, r2, r3, r4, r5]] w fun e w' => e = .returned (.bool true) ∧ Below w.heap.size w w' := by
 have hce : AB l = ([], 13) := by unfold AB; rw [hri]; rfl
 have hcp := fun (w' : World) (hb : Below w.heap.size w w') => Ce l A0 c0 w' hlen hst (hL.below hb) (hrow.keep hb)
 unfold C0 at hcp
 rw [hce] at hcp
 obtain ⟨kr, br, nr, sr, lr, fr, ar1, cr1, ar2, cr2, hre, er, hjx⟩ := RV.mk_parts hr
 simp only [List.cons.injEq, and_true] at er
 obtain ⟨rfl, rfl, rfl, rfl, rfl, rfl⟩ := er
 have hb0 := Ad (w := w) (.cells #[.int .u8 kr, .bool br, .int .i64 nr, .string sr, .slice ar1 lr.len cr1, .slice ar2 fr.len cr2] 27)
 have HLV := Lib.hid (Ca _ (hL.below hb0))
 have HB0 := Lib.hid hb0
 have HCP := Lib.hid hcp
 clear hb0 hcp hce hjx hre hL hst hrow hr hlen hri
 go_enter Tryz.func6, Tryz.ntmps6
 go_wp2_with (first | (go_at_call 13; (with_reducible refine (HLV.out).mono ?_); rintro e w1 ⟨rfl, hb1⟩; have HB1 := Lib.hid (Aa HB0.out HB0.out.size hb1); clear hb1) | (go_at_call 14; (with_reducible refine (HCP.out _ HB1.out).mono ?_); rintro e w2 ⟨A2, c2, rfl, _, _, hb2⟩; have HB2 := Lib.hid (Aa HB1.out HB1.out.size hb2); clear hb2))
 go_ret
 exact ⟨rfl, HB2.out⟩
theorem Mz (hri : Av l = true) : Calls Tryz.prog 6 #[.slice A0 l.length c0, .agg #[r0, r1, r2, r3, r4, r5]] w fun e w' => e = .returned (.bool true) ∧ Below w.heap.size w w' := by
 obtain ⟨P, hce, hck, hpk, hp1, hp2, hag⟩ := BQ hri
 obtain ⟨left, hlf, hrun, _, _⟩ := hag row
 obtain ⟨hh1, hh2⟩ := G1 hri hrun
 have hso := Ef hst
 rw [hce] at hso
 have hcp := fun (w' : World) (hb : Below w.heap.size w w') => Ce l A0 c0 w' hlen hst (hL.below hb) (hrow.keep hb)
 unfold C0 at hcp
 rw [hce] at hcp
 dsimp only at hso hcp
 have hev := fun (w' : World) (hb : Below w.heap.size w w') => GM l A0 c0 row r0 r1 r2 r3 r4 r5 w' hlen hst (hL.below hb) (hrow.keep hb) (hr.grow hb)
 have hho := fun (w' : World) (hb : Below w.heap.size w w') => KF l A0 c0 row r0 r1 r2 r3 r4 r5 w' hlen hst (hL.below hb) (hrow.keep hb) (hr.grow hb)
 have hrn := fun (w' : World) (A : Option Addr) (c : Nat) (hb : Below w.heap.size w w') (hp : RowI w' P A) => O7 P A c row P.length r0 r1 r2 r3 r4 r5 w' (by unfold LIM; omega) hso (hL.below hb) hp (hr.grow hb)
 have hvh := fun (w' : World) (A : Option Addr) (c : Nat) (hb : Below w.heap.size w w') (hp : RowI w' P A) => S5 P A c row P.length r0 r1 r2 r3 r4 r5 w' (by unfold LIM; omega) hso (hL.below hb) hp (hr.grow hb)
 rw [hrun] at hrn
 unfold FW at hho
 rw [hh1, hh2] at hvh
 obtain ⟨nl', hnl'⟩ : ∃ x, (Dk P row P.length).2.1 = x := ⟨_, rfl⟩
 rw [hnl'] at hvh
 obtain ⟨⟨t, y⟩, hey⟩ : ∃ r, Bj l row = r := ⟨_, rfl⟩
 obtain ⟨⟨hb, he⟩, hhe⟩ : ∃ r, Fg l row = r := ⟨_, rfl⟩
 rw [hey] at hev hrn
 rw [hhe] at hho hvh
 dsimp only at hho hvh
 obtain ⟨kt, bt, nt, st, lt, ft⟩ := t
 have hso' := hso
 clear hso hce hck hpk hag hh1 hh2 hrun hnl' hey hhe hri
 generalize hpn : P.length = n at *
 have hn0 : (n : Int) ≤ 256 := by omega
 have hl0 : decide ((left : Int) ≥ 0) = true := decide_eq_true (by omega)
 have hl1 : decide ((left : Int) ≤ (n : Int)) = true := decide_eq_true (by omega)
 have hl3 : decide (left ≤ n) = true := decide_eq_true (by omega)
 have hl2 : decide ((0 : Int) ≤ (left : Int)) = true := decide_eq_true (by omega)
 have hr0 := hr
 obtain ⟨kr, br, nr, sr, lr, fr, ar1, cr1, ar2, cr2, hre, er, hjx⟩ := RV.mk_parts hr
 simp only [List.cons.injEq, and_true] at er
 obtain ⟨rfl, rfl, rfl, rfl, rfl, rfl⟩ := er
 have hb0 := Ad (w := w) (.cells #[.int .u8 kr, .bool br, .int .i64 nr, .string sr, .slice ar1 lr.len cr1, .slice ar2 fr.len cr2] 27)
 have hxb := Ct (w := w.alloc (.cells #[.int .u8 kr, .bool br, .int .i64 nr, .string sr, .slice ar1 lr.len cr1, .slice ar2 fr.len cr2] 27)) rfl hr0
 have HLV := Lib.hid (Ca _ (hL.below hb0))
 have HB0 := Lib.hid hb0
 have HX0 := Lib.hid hxb
 have HCP := Lib.hid hcp
 have HEV := Lib.hid hev
 have HHO := Lib.hid hho
 have HRN := Lib.hid hrn
 have HVH := Lib.hid hvh
 clear hb0 hxb hcp hev hho hrn hvh hjx hre hL hst hrow hr hr0 hlen hso' hpn hp1 hp2 hlf
 go_enter Tryz.func6, Tryz.ntmps6
 go_upto_region 6 with (first | (go_at_call 13; (with_reducible refine (HLV.out).mono ?_); rintro e w1 ⟨rfl, hb1⟩; have HB1 := Lib.hid (Aa HB0.out HB0.out.size hb1); have HX1 := Lib.hid (HX0.out.keep hb1); clear hb1) | (go_at_call 14; (with_reducible refine (HCP.out _ HB1.out).mono ?_); rintro e w2 ⟨A2, c2, rfl, _, hp2, hb2⟩; have HB2 := Lib.hid (Aa HB1.out HB1.out.size hb2); have HX2 := Lib.hid (HX1.out.keep hb2); have HP2 := Lib.hid hp2; clear hb2 hp2))
 clear HLV HB0 HX0 HB1 HX1 HCP
 obtain ⟨x0, x1, x2, x3, x4, x5, x6⟩ := Ae HX2.out.1
 go_upto_region 7 with (go_at_call 9; (with_reducible refine (HEV.out _ HB2.out).mono ?_); intro e w3 hev3; obtain ⟨hb3, a1, c1, a2, c2', rfl, hv3⟩ := hev3.parts; have HB3 := Lib.hid (Aa HB2.out HB2.out.size hb3); have HX3 := Lib.hid (HX2.out.keep hb3); have HP3 := Lib.hid (HP2.out.keep hb3); have HV3 := Lib.hid hv3; clear hb3 hv3 hev3 x0 x1 x2 x3 x4 x5 x6)
 have hbn := Ad (w := w3) (.cells #[.int .u8 kt, .bool bt, .int .i64 nt, .string st, .slice a1 lt.len c1, .slice a2 ft.len c2'] 27)
 have hbx := Ct (w := w3.alloc (.cells #[.int .u8 kt, .bool bt, .int .i64 nt, .string st, .slice a1 lt.len c1, .slice a2 ft.len c2'] 27)) rfl HV3.out
 have hx4 := HX3.out.keep hbn
 have hp4 := HP3.out.keep hbn
 have hb4 := Aa HB3.out HB3.out.size hbn
 generalize w3.alloc (.cells #[.int .u8 kt, .bool bt, .int .i64 nt, .string st, .slice a1 lt.len c1, .slice a2 ft.len c2'] 27) = w4 at *
 generalize w3.heap.size = g4 at *
 have HX4 := Lib.hid hx4
 have HP4 := Lib.hid hp4
 have HB4 := Lib.hid hb4
 have HE4 := Lib.hid hbx
 clear hx4 hp4 hb4 hbx hbn HB2 HX2 HP2 HB3 HX3 HP3 HV3 HEV
 obtain ⟨x0, x1, x2, x3, x4, x5, x6⟩ := Ae HX4.out.1
 go_upto_region 8 with (go_at_call 15; (with_reducible refine (HRN.out _ _ _ HB4.out HP4.out).mono ?_); intro e w5 hrn5; obtain ⟨hb5, d1, e1, d2, e2, rfl, hv5⟩ := hrn5.parts (m := left) rfl; have HB5 := Lib.hid (Aa HB4.out HB4.out.size hb5); have HX5 := Lib.hid (HX4.out.keep hb5); have HP5 := Lib.hid (HP4.out.keep hb5); have HE5 := Lib.hid (HE4.out.keep hb5); have HV5 := Lib.hid hv5; clear hb5 hv5 hrn5 x0 x1 x2 x3 x4 x5 x6)
 have hbn := Ad (w := w5) (.cells #[.int .u8 kt, .bool bt, .int .i64 nt, .string st, .slice d1 lt.len e1, .slice d2 ft.len e2] 27)
 have hbx := Ct (w := w5.alloc (.cells #[.int .u8 kt, .bool bt, .int .i64 nt, .string st, .slice d1 lt.len e1, .slice d2 ft.len e2] 27)) rfl HV5.out
 have hx6 := HX5.out.keep hbn
 have hp6 := HP5.out.keep hbn
 have he6 := HE5.out.keep hbn
 have hb6 := Aa HB5.out HB5.out.size hbn
 generalize w5.alloc (.cells #[.int .u8 kt, .bool bt, .int .i64 nt, .string st, .slice d1 lt.len e1, .slice d2 ft.len e2] 27) = w6 at *
 generalize w5.heap.size = g6 at *
 have HX6 := Lib.hid hx6
 have HP6 := Lib.hid hp6
 have HB6 := Lib.hid hb6
 have HE6 := Lib.hid he6
 have HR6 := Lib.hid hbx
 clear hx6 hp6 hb6 hbx hbn he6 HX4 HP4 HB4 HE4 HX5 HP5 HB5 HE5 HV5 HRN
 obtain ⟨x0, x1, x2, x3, x4, x5, x6⟩ := Ae HX6.out.1
 go_upto_region 9 with (go_at_call 18; (with_reducible refine (HHO.out _ HB6.out).mono ?_); rintro e w7 ⟨rfl, hb7⟩; have HB7 := Lib.hid (Aa HB6.out HB6.out.size hb7); have HX7 := Lib.hid (HX6.out.keep hb7); have HP7 := Lib.hid (HP6.out.keep hb7); have HE7 := Lib.hid (HE6.out.keep hb7); have HR7 := Lib.hid (HR6.out.keep hb7); clear hb7 x0 x1 x2 x3 x4 x5 x6)
 obtain ⟨x0, x1, x2, x3, x4, x5, x6⟩ := Ae HX7.out.1
 clear HX6 HP6 HB6 HE6 HR6 HHO
 go_upto_region 10 with (go_at_call 19; (with_reducible refine (HVH.out _ _ _ HB7.out HP7.out).mono ?_); rintro e w8 ⟨rfl, hb8⟩; have HB8 := Lib.hid (Aa HB7.out HB7.out.size hb8); have HE8 := Lib.hid (HE7.out.keep hb8); have HR8 := Lib.hid (HR7.out.keep hb8); clear hb8 x0 x1 x2 x3 x4 x5 x6)
 obtain ⟨y0, y1, y2, y3, y4, y5, y6⟩ := Ae HE8.out.1
 obtain ⟨z0, z1, z2, z3, z4, z5, z6⟩ := Ae HR8.out.1
 have hsm := Hk _ _ w8 _ _ w8.heap.size HE8.out.2 HR8.out.2 (Nat.le_refl _)
 rw [CU] at hsm
 have HSM := Lib.hid hsm
 clear hsm HX7 HP7 HB7 HE7 HR7 HVH
 go_wp2_with (go_at_call 11; (with_reducible refine (HSM.out).mono ?_); rintro e w9 ⟨rfl, hb9⟩; have HB9 := Lib.hid (Aa HB8.out HB8.out.size hb9); clear hb9)
 go_ret
 exact ⟨rfl, HB9.out⟩
end
theorem Kq (l : List ST) (A0 : Option Addr) (c0 : Nat) (row : VT) (r0 r1 r2 r3 r4 r5 : Value) (w : World) (hL : Laid w) (hlen : l.length ≤ LIM) (hst : ∀ s ∈ l, Be s) (hrow : RowS w l A0) (hr : RV w 0 w.heap.size row [r0, r1, r2, r3, r4, r5]) :
   Calls Tryz.prog 6 #[.slice A0 l.length c0, .agg #[r0, r1, r2, r3, r4, r5]] w fun e w' => e = .returned (.bool true) ∧ Below w.heap.size w w' := by
 cases h : Av l with
 | false => exact N5 l A0 c0 row r0 r1 r2 r3 r4 r5 w hL hlen hst hrow hr h
 | true => exact Mz l A0 c0 row r0 r1 r2 r3 r4 r5 w hL hlen hst hrow hr h
end Go.Proofs.YtbemgcjckchdjaaGreatDoor
