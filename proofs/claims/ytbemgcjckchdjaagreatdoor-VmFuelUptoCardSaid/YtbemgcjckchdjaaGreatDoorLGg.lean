import Derived.Test.YtbemgcjckchdjaaGreatDoorLGa
import Derived.Test.YtbemgcjckchdjaaGreatDoorLGd
/- (*vm.machine).join. -/
namespace Go.Proofs.YtbemgcjckchdjaaGreatDoor
open Go.RowKit
set_option linter.unusedSimpArgs false
set_option linter.unusedVariables false
theorem Pt (vs : List VT) (h : 2 ≤ vs.length) : ∃ a b, vs.drop (vs.length - 2) = [a, b] ∧ Bz vs = b ∧ vs.getD (vs.length - 2) Am = a := by
 obtain ⟨n, hn⟩ : ∃ n, vs.length = n + 2 := ⟨vs.length - 2, by omega⟩
 have h1 : n < vs.length := by omega
 have h2 : n + 1 < vs.length := by omega
 refine ⟨vs[n], vs[n + 1], ?_, ?_, ?_⟩
 · rw [hn, show n + 2 - 2 = n by omega, List.drop_eq_getElem_cons h1, List.drop_eq_getElem_cons h2, List.drop_eq_nil_of_le (by omega)]
 · unfold Bz
   rw [hn]
   simp [List.getD, h2]
 · rw [hn]
   simp [List.getD, h1]
def Is (a b : VT) : VT := if !b.bool && a.kind == 0 then a else b
def OY (w wx : World) (g6 g7 : Nat) (a0 a1 a2 a3 a4 a5 b0 b1 b2 b3 b4 b5 : Value) : Prop := Below w.heap.size w wx ∧ wx.heap[g6]? = some (.cells #[a0, a1, a2, a3, a4, a5] 27 (0, 0)) ∧ wx.heap[g7]? = some (.cells #[b0, b1, b2, b3, b4, b5] 27 (0, 0)) ∧ w.heap.size ≤ g6 ∧ w.heap.size ≤ g7 ∧ g6 ≠ g7
theorem SK {w : World} (a0 a1 a2 a3 a4 a5 b0 b1 b2 b3 b4 b5 : Value) : OY w ((w.alloc (.cells #[a0, a1, a2, a3, a4, a5] 27)).alloc (.cells #[b0, b1, b2, b3, b4, b5] 27)).drew w.heap.size (w.heap.size + 1) a0 a1 a2 a3 a4 a5 b0 b1 b2 b3 b4 b5 := by
 refine ⟨Below.drew (Aj _ _), ?_, ?_, Nat.le_refl _, Nat.le_succ _, by omega⟩
 · exact Af (Ab w _)
 · have := Ab (w.alloc (.cells #[a0, a1, a2, a3, a4, a5] 27)) (.cells #[b0, b1, b2, b3, b4, b5] 27)
   rwa [show (w.alloc (.cells #[a0, a1, a2, a3, a4, a5] 27)).heap.size = w.heap.size + 1 by simp] at this
theorem SL {w : World} (a0 a1 a2 a3 a4 a5 b0 b1 b2 b3 b4 b5 : Value) : OY w ((w.alloc (.cells #[b0, b1, b2, b3, b4, b5] 27)).alloc (.cells #[a0, a1, a2, a3, a4, a5] 27)).drew (w.heap.size + 1) w.heap.size a0 a1 a2 a3 a4 a5 b0 b1 b2 b3 b4 b5 := by
 refine ⟨Below.drew (Aj _ _), ?_, ?_, Nat.le_succ _, Nat.le_refl _, by omega⟩
 · have := Ab (w.alloc (.cells #[b0, b1, b2, b3, b4, b5] 27)) (.cells #[a0, a1, a2, a3, a4, a5] 27)
   rwa [show (w.alloc (.cells #[b0, b1, b2, b3, b4, b5] 27)).heap.size = w.heap.size + 1 by simp] at this
 · exact Af (Ab w _)
set_option maxHeartbeats 4000000 in
set_option maxRecDepth 100000 in
theorem LF (M hi : Nat) (row : VT) (vs : List VT) (c : Nat) (f nx : Int) (x : IT) (w : World) (a b : VT) (hM : Mach M hi w row vs c f nx) (hk : 2 ≤ vs.length) (hlen : vs.length ≤ 1000) (hc : c ≤ maxLen) (hab : vs.drop (vs.length - 2) = [a, b]) :
   Calls Tryz.prog 49 #[.pointer (some ⟨M, 0, none⟩), IW x] w (MOp M row (vs.take (vs.length - 2) ++ [Is a b]) f nx (max (Bf a) (Bf b)) w) := by
 have hb0 := Ad (w := w) (BK x)
 have hx0 := Ab w (BK x)
 have hml := hM.lt
 have hhi : hi ≤ w.heap.size := by obtain ⟨_, _, _, _, _, _, _, _, _, _, h, _⟩ := hM; exact h
 have hp := Gr M hi row vs c f nx 2 _ (hM.keep hb0) hk hlen hc
 have hp : Calls Tryz.prog 69 #[.pointer (some ⟨M, 0, none⟩), .int .i64 2] (w.alloc (BK x)) (IL M hi row vs f nx 2 (w.alloc (BK x))) := hp
 have HPOP := Lib.hid hp
 clear hp
 obtain ⟨ws, hws⟩ : ∃ ws, vs.take (vs.length - 2) = ws := ⟨_, rfl⟩
 have hwl : ws.length = vs.length - 2 := by rw [← hws, List.length_take]; omega
 rw [hws]
 obtain ⟨tj, hj⟩ : ∃ tj, Is a b = tj := ⟨_, rfl⟩
 rw [hj]
 have HJ := Lib.hid hj
 clear hj
 have HB0 := Lib.hid hb0
 have HAB := Lib.hid hab
 have HWS := Lib.hid hws
 have HWL := Lib.hid hwl
 have HLEN := Lib.hid hlen
 clear hM hk hc hb0 hx0 hab hws hwl hlen
 go_enter Tryz.func49, Tryz.ntmps49
 go_upto_region 1 with (fail)
 generalize w.alloc (BK x) = W at *
 go_upto_region 2 with (go_at_call 69; (with_reducible refine (HPOP.out).mono ?_); rintro e w5 ⟨A5, c5, rfl, hkc, hx5, hm5, hf5, ho5⟩; rw [HAB.out] at hx5; rw [HWS.out, ← HWL.out] at hm5; have HX5 := Lib.hid hx5; have HM5 := Lib.hid hm5; have HF5 := Lib.hid hf5; have HKC := Lib.hid hkc; clear hkc hx5 hm5 hf5 ho5)
 have hx5 := HX5.out
 rcases hx5 with hx5 | ⟨bl, ol, rfl, hbl, hr⟩
 · exact absurd hx5 (by simp)
 unfold Au RL Au RL at hr
 obtain ⟨⟨a0, a1, a2, a3, a4, a5, e0, e1, e2, e3, e4, e5, hva⟩, ⟨b0, b1, b2, b3, b4, b5, e6, e7, e8, e9, e10, e11, hvb⟩, _⟩ := hr
 have HVA := Lib.hid hva
 have HVB := Lib.hid hvb
 obtain ⟨ka, ba, na, sa, la, fa, aa1, ca1, aa2, ca2, rfl, exa, _⟩ := RV.mk_parts hva
 obtain ⟨kb, bb, nb, sb, lb, fb, ab1, cb1, ab2, cb2, rfl, exb, _⟩ := RV.mk_parts hvb
 simp only [List.cons.injEq, and_true] at exa exb
 obtain ⟨rfl, rfl, rfl, rfl, rfl, rfl⟩ := exa
 obtain ⟨rfl, rfl, rfl, rfl, rfl, rfl⟩ := exb
 have HHI5 : Hid (hi ≤ w5.heap.size) := Lib.hid (by have := HB0.out.size; have := HF5.out.size; omega)
 have hz1 := Ad (w := w5) Ah
 have hz2 := Aj (w := w5) Ah Ah
 have hs1 : (w5.alloc Ah).heap.size = w5.heap.size + 1 := by simp
 have hn1 := Af (o := Ah) (Ab w5 Ah)
 have hn2 := Ab (w5.alloc Ah) Ah
 rw [hs1] at hn2
 have HN1 := Lib.hid hn1
 have HN2 := Lib.hid hn2
 have HZ2 := Lib.hid hz2
 have hne1 : bl ≠ w5.heap.size := by omega
 have hne2 : bl ≠ w5.heap.size + 1 := by omega
 obtain ⟨p0, p1, p2, p3, p4, p5, p6⟩ := Ae hn1
 obtain ⟨q0, q1, q2, q3, q4, q5, q6⟩ := Ae hn2
 have k0 := Ac hz1 e0
 have m0 := Ac hz2 e0
 have k1 := Ac hz1 e1
 have m1 := Ac hz2 e1
 have k2 := Ac hz1 e2
 have m2 := Ac hz2 e2
 have k3 := Ac hz1 e3
 have m3 := Ac hz2 e3
 have k4 := Ac hz1 e4
 have m4 := Ac hz2 e4
 have k5 := Ac hz1 e5
 have m5 := Ac hz2 e5
 have k6 := Ac hz1 e6
 have m6 := Ac hz2 e6
 have k7 := Ac hz1 e7
 have m7 := Ac hz2 e7
 have k8 := Ac hz1 e8
 have m8 := Ac hz2 e8
 have k9 := Ac hz1 e9
 have m9 := Ac hz2 e9
 have k10 := Ac hz1 e10
 have m10 := Ac hz2 e10
 have k11 := Ac hz1 e11
 have m11 := Ac hz2 e11
 clear hz1 hz2 hn1 hn2 hva hvb
 go_cut [6, 7] (fun s6 s7 wx => ∃ g6 g7, s6 = .pointer (some ⟨g6, 0, none⟩) ∧ s7 = .pointer (some ⟨g7, 0, none⟩) ∧ OY w5 wx g6 g7 (.int .u8 ka) (.bool ba) (.int .i64 na) (.string sa) (.slice aa1 la.len ca1) (.slice aa2 fa.len ca2) (.int .u8 kb) (.bool bb) (.int .i64 nb) (.string sb) (.slice ab1 lb.len cb1) (.slice ab2 fb.len cb2))
 case first =>
   go_region_with fail
   all_goals (go_wp2_with fail)
   all_goals go_meet
   all_goals (refine ⟨_, _, rfl, rfl, ?_⟩)
   all_goals first | (with_reducible exact SK _ _ _ _ _ _ _ _ _ _ _ _) | (with_reducible exact SL _ _ _ _ _ _ _ _ _ _ _ _)
 case rest =>
   -- <<
   obtain ⟨g6, g7, rfl, rfl, hjb, hj6, hj7, hg6, hg7, hgg⟩ := hcut
   have HD := Lib.hid hjb
   have HG6 := Lib.hid hj6
   have HG7 := Lib.hid hj7
   have E0 := Lib.hid e0
   have E1 := Lib.hid e1
   have E2 := Lib.hid e2
   have E3 := Lib.hid e3
   have E4 := Lib.hid e4
   have E5 := Lib.hid e5
   have E6 := Lib.hid e6
   have E7 := Lib.hid e7
   have E8 := Lib.hid e8
   have E9 := Lib.hid e9
   have E10 := Lib.hid e10
   have E11 := Lib.hid e11
   have HBL := Lib.hid hbl
   have hm5 := HM5.out
   have HBM : Hid (bl ≠ M) := Lib.hid (by
     rintro rfl
     obtain ⟨_, _, _, _, _, _, _, h9, _⟩ := hm5
     have := E11.out
     simp [World.cell?, h9] at this)
   clear hm5 hjb hj6 hj7 hbl e0 k0 m0 e1 k1 m1 e2 k2 m2 e3 k3 m3 e4 k4 m4 e5 k5 m5 e6 k6 m6 e7 k7 m7 e8 k8 m8 e9 k9 m9 e10 k10 m10 e11 k11 m11 p0 p1 p2 p3 p4 p5 p6 q0 q1 q2 q3 q4 q5 q6
   obtain ⟨p0, p1, p2, p3, p4, p5, p6⟩ := Ae HG6.out
   obtain ⟨q0, q1, q2, q3, q4, q5, q6⟩ := Ae HG7.out
   cases bb with
   | true =>
     have ht : Is (.mk ka ba na sa la fa) (.mk kb true nb sb lb fb) = (.mk kb true nb sb lb fb) := rfl
     have HTT := Lib.hid ht
     clear ht
     go_upto_region 5 with (fail)
     clear p0 p1 p2 p3 p4 p5 p6 q0 q1 q2 q3 q4 q5 q6
     have hpu := fun (w' : World) (hb : Below wc.heap.size wc w') => Ea M hi row ws (.mk kb true nb sb lb fb) f nx (.int .u8 kb) (.bool true) (.int .i64 nb) (.string sb) (.slice ab1 lb.len cb1) (.slice ab2 fb.len cb2) w' ((HM5.out.keep HD.out).keep hb) (by have := HWL.out; have := HLEN.out; omega) (RV.mfr (w' := w') (RV.keep (fun _ _ _ => rfl) (Nat.le_refl _) (Nat.le_trans HHI5.out HD.out.size) _ _ (RV.mfrh HVB.out HHI5.out (MFr.of_below HD.out))) (MFr.of_below hb))
     have HPU := Lib.hid hpu
     obtain ⟨z0, z1, z2, z3, z4, z5, z6⟩ := Ae HG7.out
     clear hpu
     go_upto_region 5 with (fail)
     go_region_with (go_at_call 70; (with_reducible refine (HPU.out _ (Below.drew (Below.refl _ _))).mono ?_); rintro e w9 ⟨rfl, c9, hc9, hm9, hf9⟩; have HC9 := Lib.hid hc9; have HM9 := Lib.hid hm9; have HF9 := Lib.hid (((MFr.of_below HD.out).trans (MFr.of_below (Below.drew (Below.refl _ _)))).trans hf9); clear hc9 hm9 hf9)
     clear z0 z1 z2 z3 z4 z5 z6
     have f0 := (World.cell?_of_block (HF9.out.block (b := bl) HBL.out HBM.out)).trans E0.out
     have f1 := (World.cell?_of_block (HF9.out.block (b := bl) HBL.out HBM.out)).trans E1.out
     have f2 := (World.cell?_of_block (HF9.out.block (b := bl) HBL.out HBM.out)).trans E2.out
     have f3 := (World.cell?_of_block (HF9.out.block (b := bl) HBL.out HBM.out)).trans E3.out
     have f4 := (World.cell?_of_block (HF9.out.block (b := bl) HBL.out HBM.out)).trans E4.out
     have f5 := (World.cell?_of_block (HF9.out.block (b := bl) HBL.out HBM.out)).trans E5.out
     have f6 := (World.cell?_of_block (HF9.out.block (b := bl) HBL.out HBM.out)).trans E6.out
     have f7 := (World.cell?_of_block (HF9.out.block (b := bl) HBL.out HBM.out)).trans E7.out
     have f8 := (World.cell?_of_block (HF9.out.block (b := bl) HBL.out HBM.out)).trans E8.out
     have f9 := (World.cell?_of_block (HF9.out.block (b := bl) HBL.out HBM.out)).trans E9.out
     have f10 := (World.cell?_of_block (HF9.out.block (b := bl) HBL.out HBM.out)).trans E10.out
     have f11 := (World.cell?_of_block (HF9.out.block (b := bl) HBL.out HBM.out)).trans E11.out
     have hfa := fun (w' : World) (hb : Below w9.heap.size w9 w') => Bo (.mk ka ba na sa la fa) (.int .u8 ka) (.bool ba) (.int .i64 na) (.string sa) (.slice aa1 la.len ca1) (.slice aa2 fa.len ca2) w' (RV.keep (w := w') (fun _ _ _ => rfl) (Nat.zero_le _) (by have := HHI5.out; have := HF9.out.size; have := hb.size; omega) _ _ (RV.mfrh HVA.out HHI5.out (HF9.out.trans (MFr.of_below hb))))
     have hfb := fun (w' : World) (hb : Below w9.heap.size w9 w') => Bo (.mk kb true nb sb lb fb) (.int .u8 kb) (.bool true) (.int .i64 nb) (.string sb) (.slice ab1 lb.len cb1) (.slice ab2 fb.len cb2) w' (RV.keep (w := w') (fun _ _ _ => rfl) (Nat.zero_le _) (by have := HHI5.out; have := HF9.out.size; have := hb.size; omega) _ _ (RV.mfrh HVB.out HHI5.out (HF9.out.trans (MFr.of_below hb))))
     have HFA := Lib.hid hfa
     have HFB := Lib.hid hfb
     clear hfa hfb
     have HE0 := Lib.hid f0
     have HE1 := Lib.hid f1
     have HE2 := Lib.hid f2
     have HE3 := Lib.hid f3
     have HE4 := Lib.hid f4
     have HE5 := Lib.hid f5
     have HE6 := Lib.hid f6
     have HE7 := Lib.hid f7
     have HE8 := Lib.hid f8
     have HE9 := Lib.hid f9
     have HE10 := Lib.hid f10
     have HE11 := Lib.hid f11
     go_upto_region 6 with (fail)
     go_region_with (go_at_call 37; first | ((with_reducible refine (HFA.out _ (Below.drew (Below.refl _ _))).mono ?_); rintro e w10 ⟨rfl, hb10⟩; have hb10 := Aa (Below.drew (Below.refl w9.heap.size w9)) (Nat.le_refl _) hb10; have l6 := Ac hb10 HE6.out; have l7 := Ac hb10 HE7.out; have l8 := Ac hb10 HE8.out; have l9 := Ac hb10 HE9.out; have l10 := Ac hb10 HE10.out; have l11 := Ac hb10 HE11.out; have HB10 := Lib.hid hb10; clear hb10) | ((with_reducible refine (HFB.out _ HB10.out).mono ?_); rintro e w11 ⟨rfl, hb11⟩; have HB11 := Lib.hid hb11; clear hb11))
     all_goals (go_wp2_with fail)
     all_goals go_ret
     all_goals (have ej := HJ.out; rw [HTT.out] at ej; subst ej; exact ⟨rfl, _, c9, HC9.out, HM9.out.keep (Aa HB10.out HB10.out.size HB11.out), ((MFr.of_below HB0.out).trans HF5.out).trans (HF9.out.trans (MFr.of_below (Aa HB10.out HB10.out.size HB11.out)))⟩)
   | false =>
     by_cases hk0 : ka = 0
     · subst hk0
       have ht : Is (.mk 0 ba na sa la fa) (.mk kb false nb sb lb fb) = (.mk 0 ba na sa la fa) := rfl
       have HTT := Lib.hid ht
       clear ht
       go_upto_region 5 with (fail)
       have hd : Below w5.heap.size w5 ((((((wc.setCell ⟨g7, 0, none⟩ (.int .u8 0)).setCell ⟨g7, 1, none⟩ (.bool ba)).setCell ⟨g7, 2, none⟩ (.int .i64 na)).setCell ⟨g7, 3, none⟩ (.string sa)).setCell ⟨g7, 4, none⟩ (.slice aa1 la.len ca1)).setCell ⟨g7, 5, none⟩ (.slice aa2 fa.len ca2)) := Ag (B := w5.heap.size) (a := w5) hg7 [.int .u8 0, .bool ba, .int .i64 na, .string sa, .slice aa1 la.len ca1, .slice aa2 fa.len ca2] 0 wc HD.out
       have h7 : ((((((wc.setCell ⟨g7, 0, none⟩ (.int .u8 0)).setCell ⟨g7, 1, none⟩ (.bool ba)).setCell ⟨g7, 2, none⟩ (.int .i64 na)).setCell ⟨g7, 3, none⟩ (.string sa)).setCell ⟨g7, 4, none⟩ (.slice aa1 la.len ca1)).setCell ⟨g7, 5, none⟩ (.slice aa2 fa.len ca2)).heap[g7]? = _ := EI HG7.out
       generalize ((((((wc.setCell ⟨g7, 0, none⟩ (.int .u8 0)).setCell ⟨g7, 1, none⟩ (.bool ba)).setCell ⟨g7, 2, none⟩ (.int .i64 na)).setCell ⟨g7, 3, none⟩ (.string sa)).setCell ⟨g7, 4, none⟩ (.slice aa1 la.len ca1)).setCell ⟨g7, 5, none⟩ (.slice aa2 fa.len ca2)) = wd at *
       clear p0 p1 p2 p3 p4 p5 p6 q0 q1 q2 q3 q4 q5 q6 HD HG7
       have HD := Lib.hid hd
       have HG7 := Lib.hid h7
       clear hd h7
       have hpu := fun (w' : World) (hb : Below wd.heap.size wd w') => Ea M hi row ws (.mk 0 ba na sa la fa) f nx (.int .u8 0) (.bool ba) (.int .i64 na) (.string sa) (.slice aa1 la.len ca1) (.slice aa2 fa.len ca2) w' ((HM5.out.keep HD.out).keep hb) (by have := HWL.out; have := HLEN.out; omega) (RV.mfr (w' := w') (RV.keep (fun _ _ _ => rfl) (Nat.le_refl _) (Nat.le_trans HHI5.out HD.out.size) _ _ (RV.mfrh HVA.out HHI5.out (MFr.of_below HD.out))) (MFr.of_below hb))
       have HPU := Lib.hid hpu
       obtain ⟨z0, z1, z2, z3, z4, z5, z6⟩ := Ae HG7.out
       clear hpu
       go_upto_region 5 with (fail)
       go_region_with (go_at_call 70; (with_reducible refine (HPU.out _ (Below.drew (Below.refl _ _))).mono ?_); rintro e w9 ⟨rfl, c9, hc9, hm9, hf9⟩; have HC9 := Lib.hid hc9; have HM9 := Lib.hid hm9; have HF9 := Lib.hid (((MFr.of_below HD.out).trans (MFr.of_below (Below.drew (Below.refl _ _)))).trans hf9); clear hc9 hm9 hf9)
       clear z0 z1 z2 z3 z4 z5 z6
       have f0 := (World.cell?_of_block (HF9.out.block (b := bl) HBL.out HBM.out)).trans E0.out
       have f1 := (World.cell?_of_block (HF9.out.block (b := bl) HBL.out HBM.out)).trans E1.out
       have f2 := (World.cell?_of_block (HF9.out.block (b := bl) HBL.out HBM.out)).trans E2.out
       have f3 := (World.cell?_of_block (HF9.out.block (b := bl) HBL.out HBM.out)).trans E3.out
       have f4 := (World.cell?_of_block (HF9.out.block (b := bl) HBL.out HBM.out)).trans E4.out
       have f5 := (World.cell?_of_block (HF9.out.block (b := bl) HBL.out HBM.out)).trans E5.out
       have f6 := (World.cell?_of_block (HF9.out.block (b := bl) HBL.out HBM.out)).trans E6.out
       have f7 := (World.cell?_of_block (HF9.out.block (b := bl) HBL.out HBM.out)).trans E7.out
       have f8 := (World.cell?_of_block (HF9.out.block (b := bl) HBL.out HBM.out)).trans E8.out
       have f9 := (World.cell?_of_block (HF9.out.block (b := bl) HBL.out HBM.out)).trans E9.out
       have f10 := (World.cell?_of_block (HF9.out.block (b := bl) HBL.out HBM.out)).trans E10.out
       have f11 := (World.cell?_of_block (HF9.out.block (b := bl) HBL.out HBM.out)).trans E11.out
       have hfa := fun (w' : World) (hb : Below w9.heap.size w9 w') => Bo (.mk 0 ba na sa la fa) (.int .u8 0) (.bool ba) (.int .i64 na) (.string sa) (.slice aa1 la.len ca1) (.slice aa2 fa.len ca2) w' (RV.keep (w := w') (fun _ _ _ => rfl) (Nat.zero_le _) (by have := HHI5.out; have := HF9.out.size; have := hb.size; omega) _ _ (RV.mfrh HVA.out HHI5.out (HF9.out.trans (MFr.of_below hb))))
       have hfb := fun (w' : World) (hb : Below w9.heap.size w9 w') => Bo (.mk kb false nb sb lb fb) (.int .u8 kb) (.bool false) (.int .i64 nb) (.string sb) (.slice ab1 lb.len cb1) (.slice ab2 fb.len cb2) w' (RV.keep (w := w') (fun _ _ _ => rfl) (Nat.zero_le _) (by have := HHI5.out; have := HF9.out.size; have := hb.size; omega) _ _ (RV.mfrh HVB.out HHI5.out (HF9.out.trans (MFr.of_below hb))))
       have HFA := Lib.hid hfa
       have HFB := Lib.hid hfb
       clear hfa hfb
       have HE0 := Lib.hid f0
       have HE1 := Lib.hid f1
       have HE2 := Lib.hid f2
       have HE3 := Lib.hid f3
       have HE4 := Lib.hid f4
       have HE5 := Lib.hid f5
       have HE6 := Lib.hid f6
       have HE7 := Lib.hid f7
       have HE8 := Lib.hid f8
       have HE9 := Lib.hid f9
       have HE10 := Lib.hid f10
       have HE11 := Lib.hid f11
       go_upto_region 6 with (fail)
       go_region_with (go_at_call 37; first | ((with_reducible refine (HFA.out _ (Below.drew (Below.refl _ _))).mono ?_); rintro e w10 ⟨rfl, hb10⟩; have hb10 := Aa (Below.drew (Below.refl w9.heap.size w9)) (Nat.le_refl _) hb10; have l6 := Ac hb10 HE6.out; have l7 := Ac hb10 HE7.out; have l8 := Ac hb10 HE8.out; have l9 := Ac hb10 HE9.out; have l10 := Ac hb10 HE10.out; have l11 := Ac hb10 HE11.out; have HB10 := Lib.hid hb10; clear hb10) | ((with_reducible refine (HFB.out _ HB10.out).mono ?_); rintro e w11 ⟨rfl, hb11⟩; have HB11 := Lib.hid hb11; clear hb11))
       all_goals (go_wp2_with fail)
       all_goals go_ret
       all_goals (have ej := HJ.out; rw [HTT.out] at ej; subst ej; exact ⟨rfl, _, c9, HC9.out, HM9.out.keep (Aa HB10.out HB10.out.size HB11.out), ((MFr.of_below HB0.out).trans HF5.out).trans (HF9.out.trans (MFr.of_below (Aa HB10.out HB10.out.size HB11.out)))⟩)
     · have hkz : (ka == 0) = false := by simpa using hk0
       have ht : Is (.mk ka ba na sa la fa) (.mk kb false nb sb lb fb) = (.mk kb false nb sb lb fb) := (by
       show (if (!false && ka == 0) = true then _ else _) = _
       rw [hkz]
       rfl)
       have HTT := Lib.hid ht
       clear ht hk0
       go_upto_region 5 with (fail)
       clear p0 p1 p2 p3 p4 p5 p6 q0 q1 q2 q3 q4 q5 q6
       have hpu := fun (w' : World) (hb : Below wc.heap.size wc w') => Ea M hi row ws (.mk kb false nb sb lb fb) f nx (.int .u8 kb) (.bool false) (.int .i64 nb) (.string sb) (.slice ab1 lb.len cb1) (.slice ab2 fb.len cb2) w' ((HM5.out.keep HD.out).keep hb) (by have := HWL.out; have := HLEN.out; omega) (RV.mfr (w' := w') (RV.keep (fun _ _ _ => rfl) (Nat.le_refl _) (Nat.le_trans HHI5.out HD.out.size) _ _ (RV.mfrh HVB.out HHI5.out (MFr.of_below HD.out))) (MFr.of_below hb))
       have HPU := Lib.hid hpu
       obtain ⟨z0, z1, z2, z3, z4, z5, z6⟩ := Ae HG7.out
       clear hpu
       go_upto_region 5 with (fail)
       go_region_with (go_at_call 70; (with_reducible refine (HPU.out _ (Below.drew (Below.refl _ _))).mono ?_); rintro e w9 ⟨rfl, c9, hc9, hm9, hf9⟩; have HC9 := Lib.hid hc9; have HM9 := Lib.hid hm9; have HF9 := Lib.hid (((MFr.of_below HD.out).trans (MFr.of_below (Below.drew (Below.refl _ _)))).trans hf9); clear hc9 hm9 hf9)
       clear z0 z1 z2 z3 z4 z5 z6
       have f0 := (World.cell?_of_block (HF9.out.block (b := bl) HBL.out HBM.out)).trans E0.out
       have f1 := (World.cell?_of_block (HF9.out.block (b := bl) HBL.out HBM.out)).trans E1.out
       have f2 := (World.cell?_of_block (HF9.out.block (b := bl) HBL.out HBM.out)).trans E2.out
       have f3 := (World.cell?_of_block (HF9.out.block (b := bl) HBL.out HBM.out)).trans E3.out
       have f4 := (World.cell?_of_block (HF9.out.block (b := bl) HBL.out HBM.out)).trans E4.out
       have f5 := (World.cell?_of_block (HF9.out.block (b := bl) HBL.out HBM.out)).trans E5.out
       have f6 := (World.cell?_of_block (HF9.out.block (b := bl) HBL.out HBM.out)).trans E6.out
       have f7 := (World.cell?_of_block (HF9.out.block (b := bl) HBL.out HBM.out)).trans E7.out
       have f8 := (World.cell?_of_block (HF9.out.block (b := bl) HBL.out HBM.out)).trans E8.out
       have f9 := (World.cell?_of_block (HF9.out.block (b := bl) HBL.out HBM.out)).trans E9.out
       have f10 := (World.cell?_of_block (HF9.out.block (b := bl) HBL.out HBM.out)).trans E10.out
       have f11 := (World.cell?_of_block (HF9.out.block (b := bl) HBL.out HBM.out)).trans E11.out
       have hfa := fun (w' : World) (hb : Below w9.heap.size w9 w') => Bo (.mk ka ba na sa la fa) (.int .u8 ka) (.bool ba) (.int .i64 na) (.string sa) (.slice aa1 la.len ca1) (.slice aa2 fa.len ca2) w' (RV.keep (w := w') (fun _ _ _ => rfl) (Nat.zero_le _) (by have := HHI5.out; have := HF9.out.size; have := hb.size; omega) _ _ (RV.mfrh HVA.out HHI5.out (HF9.out.trans (MFr.of_below hb))))
       have hfb := fun (w' : World) (hb : Below w9.heap.size w9 w') => Bo (.mk kb false nb sb lb fb) (.int .u8 kb) (.bool false) (.int .i64 nb) (.string sb) (.slice ab1 lb.len cb1) (.slice ab2 fb.len cb2) w' (RV.keep (w := w') (fun _ _ _ => rfl) (Nat.zero_le _) (by have := HHI5.out; have := HF9.out.size; have := hb.size; omega) _ _ (RV.mfrh HVB.out HHI5.out (HF9.out.trans (MFr.of_below hb))))
       have HFA := Lib.hid hfa
       have HFB := Lib.hid hfb
       clear hfa hfb
       have HE0 := Lib.hid f0
       have HE1 := Lib.hid f1
       have HE2 := Lib.hid f2
       have HE3 := Lib.hid f3
       have HE4 := Lib.hid f4
       have HE5 := Lib.hid f5
       have HE6 := Lib.hid f6
       have HE7 := Lib.hid f7
       have HE8 := Lib.hid f8
       have HE9 := Lib.hid f9
       have HE10 := Lib.hid f10
       have HE11 := Lib.hid f11
       go_upto_region 6 with (fail)
       go_region_with (go_at_call 37; first | ((with_reducible refine (HFA.out _ (Below.drew (Below.refl _ _))).mono ?_); rintro e w10 ⟨rfl, hb10⟩; have hb10 := Aa (Below.drew (Below.refl w9.heap.size w9)) (Nat.le_refl _) hb10; have l6 := Ac hb10 HE6.out; have l7 := Ac hb10 HE7.out; have l8 := Ac hb10 HE8.out; have l9 := Ac hb10 HE9.out; have l10 := Ac hb10 HE10.out; have l11 := Ac hb10 HE11.out; have HB10 := Lib.hid hb10; clear hb10) | ((with_reducible refine (HFB.out _ HB10.out).mono ?_); rintro e w11 ⟨rfl, hb11⟩; have HB11 := Lib.hid hb11; clear hb11))
       all_goals (go_wp2_with fail)
       all_goals go_ret
       all_goals (have ej := HJ.out; rw [HTT.out] at ej; subst ej; exact ⟨rfl, _, c9, HC9.out, HM9.out.keep (Aa HB10.out HB10.out.size HB11.out), ((MFr.of_below HB0.out).trans HF5.out).trans (HF9.out.trans (MFr.of_below (Aa HB10.out HB10.out.size HB11.out)))⟩)
   -- >>
end Go.Proofs.YtbemgcjckchdjaaGreatDoor
