import Derived.Test.YtbemgcjckchdjaaGreatDoorKYd
import Derived.Test.YtbemgcjckchdjaaGreatDoorKYr8
import Derived.Test.YtbemgcjckchdjaaGreatDoorKYr12
import Derived.Test.YtbemgcjckchdjaaGreatDoorKYa
/- codicillaw11.ExprLogic: the walk (printed by genlog2.py). -/
namespace Go.Proofs.YtbemgcjckchdjaaGreatDoor
open Go.RowKit
set_option linter.unusedSimpArgs false
set_option linter.unusedVariables false
set_option maxHeartbeats 4000000
set_option maxRecDepth 100000
theorem logic_main (la lb : List ST) (A0 B0 : Option Addr) (c0 c0' : Nat) (row : VT) (r0 r1 r2 r3 r4 r5 : Value) (w : World) (hL : Laid w) (hlen : la.length + lb.length + 2 ≤ 128) (hsta : ∀ s ∈ la, StOk s) (hstb : ∀ s ∈ lb, StOk s) (hra : RowS w la A0) (hrb : RowS w lb B0) (hr : RV w 0 w.heap.size row [r0, r1, r2, r3, r4, r5])
    (kp : Int) (bp : Bool) (np : Int) (sp : ByteArray) (lp : VL) (fp : FL) (hp : evalE la row = (.mk kp bp np sp lp fp, 0)) (kq : Int) (bq : Bool) (nq : Int) (sq : ByteArray) (lq : VL) (fq : FL) (hq : evalE lb row = (.mk kq bq nq sq lq fq, 0)) :
    Calls Tryz.prog 3 #[.slice A0 la.length c0, .slice B0 lb.length c0', .agg #[r0, r1, r2, r3, r4, r5]] w fun e w' => e = .returned (.bool true) ∧ Below w.heap.size w w' := by
  have hpa : 0 < la.length := right_pos (right_of (eval_ok hp).1).1
  have hpb : 0 < lb.length := right_pos (right_of (eval_ok hq).1).1
  have hr0 := hr
  obtain ⟨kr, br, nr, sr, lr, fr, ar1, cr1, ar2, cr2, hre, er, hjx⟩ := RV.mk_parts hr
  simp only [List.cons.injEq, and_true] at er
  obtain ⟨rfl, rfl, rfl, rfl, rfl, rfl⟩ := er
  clear hjx hr hre
  have hb0 := below_new (w := w) (.cells #[.int .u8 kr, .bool br, .int .i64 nr, .string sr, .slice ar1 lr.len cr1, .slice ar2 fr.len cr2] 27)
  have hrbx : RowBox w.heap.size row (w.alloc (.cells #[.int .u8 kr, .bool br, .int .i64 nr, .string sr, .slice ar1 lr.len cr1, .slice ar2 fr.len cr2] 27)) (.int .u8 kr) (.bool br) (.int .i64 nr) (.string sr) (.slice ar1 lr.len cr1) (.slice ar2 fr.len cr2) := ⟨heap_last _ _, hr0.grow hb0⟩
  have HLV := Lib.hid (lives_calls _ (hL.below hb0))
  have HLD := Lib.hid hL
  have HB0 := Lib.hid hb0
  have HRB0 := Lib.hid hrbx
  have HEV1 := Lib.hid (fun (w' : World) (hb : Below w.heap.size w w') => evalM_calls la A0 c0 row _ _ _ _ _ _ w' (by unfold LIM; omega) hsta (hL.below hb) (RowS.keep hra hb) (hr0.grow hb))
  have HEV2 := Lib.hid (fun (w' : World) (hb : Below w.heap.size w w') => evalM_calls lb B0 c0' row _ _ _ _ _ _ w' (by unfold LIM; omega) hstb (hL.below hb) (RowS.keep hrb hb) (hr0.grow hb))
  obtain ⟨a0, oa, rfl, hal, hsa⟩ := hra.cells hpa
  obtain ⟨b0, ob, rfl, hbl, hsb⟩ := hrb.cells hpb
  rw [hp] at HEV1
  rw [hq] at HEV2
  have HSA := Lib.hid hsa
  have HAL := Lib.hid hal
  have HSB := Lib.hid hsb
  have HBL := Lib.hid hbl
  have HLP := Lib.hid hp
  have HLQ := Lib.hid hq
  have HSTA := Lib.hid hsta
  have HSTB := Lib.hid hstb
  have HSLA := Lib.hid (scells_length la)
  have HSLB := Lib.hid (scells_length lb)
  have HS1A := Lib.hid (scells_one la)
  have HS1B := Lib.hid (scells_one lb)
  obtain ⟨n, hn⟩ : ∃ n, la.length = n := ⟨_, rfl⟩
  obtain ⟨m, hm⟩ : ∃ m, lb.length = m := ⟨_, rfl⟩
  rw [hn, hm] at hlen ⊢
  rw [hn] at hpa HSLA HEV1
  rw [hm] at hpb HSLB HEV2
  have HN := Lib.hid hn
  have HM := Lib.hid hm
  have hw2 : wrap64 (((n + m : Nat) : Int) + 2) = ((n + m : Nat) : Int) + 2 := IntWalk.wrap64_in _ (by omega)
  have hw3 : IntKind.i64.wrap (((n + m : Nat) : Int) + 2) = ((n + m : Nat) : Int) + 2 := IntWalk.i64_in _ (by omega)
  have d1 : decide ((128 : Int) < ((n + m : Nat) : Int) + 2) = false := decide_eq_false (by omega)
  clear hb0 hrbx hL hsta hstb hra hrb hr0 hal hsa hbl hsb hn hm hp hq
  go_enter Tryz.func3, Tryz.ntmps3
  go_upto_region 3 with (go_at_call 8; (with_reducible refine (HLV.out).mono ?_); rintro e w1 ⟨rfl, hb1⟩; have HB1 := Lib.hid (below_call0 HB0.out HB0.out.size hb1); have HRB1 := Lib.hid (HRB0.out.keep hb1); clear hb1)
  clear HLV HB0 HRB0
  obtain ⟨y0, y1, y2, y3, y4, y5, y6⟩ := cells6 HRB1.out.1
  go_upto_region 4 with (go_at_call 9; (with_reducible refine (HEV1.out _ HB1.out).mono ?_); intro e w4 hev; obtain ⟨hb4, a1, c1, a2, c2, rfl, hv4⟩ := hev.parts; have HB4 := Lib.hid hb4; have HV4 := Lib.hid hv4; clear hev hb4 hv4)
  clear y0 y1 y2 y3 y4 y5 y6
  have hb5 := below_call0 HB4.out HB4.out.size (below_new (w := w4) (.cells #[.int .u8 kp, .bool bp, .int .i64 np, .string sp, .slice a1 lp.len c1, .slice a2 fp.len c2] 27))
  have HB5 := Lib.hid (below_call0 HB1.out HB1.out.size hb5)
  have HRB5 := Lib.hid (HRB1.out.keep hb5)
  have HP5 : Hid (RowBox w4.heap.size (.mk kp bp np sp lp fp) (w4.alloc (.cells #[.int .u8 kp, .bool bp, .int .i64 np, .string sp, .slice a1 lp.len c1, .slice a2 fp.len c2] 27)) (.int .u8 kp) (.bool bp) (.int .i64 np) (.string sp) (.slice a1 lp.len c1) (.slice a2 fp.len c2)) := Lib.hid ⟨heap_last _ _, RV.grow (RV.keep (Same.of_below (Below.refl _ _)) (Nat.zero_le _) (Nat.le_refl _) _ _ HV4.out) (below_new _)⟩
  generalize w4.alloc (.cells #[.int .u8 kp, .bool bp, .int .i64 np, .string sp, .slice a1 lp.len c1, .slice a2 fp.len c2] 27) = W5 at *
  generalize w4.heap.size = g1 at *
  clear hb5 HB4 HV4 HB1 HRB1 HEV1
  obtain ⟨y0, y1, y2, y3, y4, y5, y6⟩ := cells6 HRB5.out.1
  go_upto_region 5 with (go_at_call 9; (with_reducible refine (HEV2.out _ HB5.out).mono ?_); intro e w6 hev; obtain ⟨hb6, a3, c3, a4, c4, rfl, hv6⟩ := hev.parts; have HB6 := Lib.hid hb6; have HV6 := Lib.hid hv6; clear hev hb6 hv6)
  clear y0 y1 y2 y3 y4 y5 y6
  have hb7 := below_call0 HB6.out HB6.out.size (below_new (w := w6) (.cells #[.int .u8 kq, .bool bq, .int .i64 nq, .string sq, .slice a3 lq.len c3, .slice a4 fq.len c4] 27))
  have HB7 := Lib.hid (below_call0 HB5.out HB5.out.size hb7)
  have HRB7 := Lib.hid (HRB5.out.keep hb7)
  have HP7 := Lib.hid (HP5.out.keep hb7)
  have HQ7 : Hid (RowBox w6.heap.size (.mk kq bq nq sq lq fq) (w6.alloc (.cells #[.int .u8 kq, .bool bq, .int .i64 nq, .string sq, .slice a3 lq.len c3, .slice a4 fq.len c4] 27)) (.int .u8 kq) (.bool bq) (.int .i64 nq) (.string sq) (.slice a3 lq.len c3) (.slice a4 fq.len c4)) := Lib.hid ⟨heap_last _ _, RV.grow (RV.keep (Same.of_below (Below.refl _ _)) (Nat.zero_le _) (Nat.le_refl _) _ _ HV6.out) (below_new _)⟩
  generalize w6.alloc (.cells #[.int .u8 kq, .bool bq, .int .i64 nq, .string sq, .slice a3 lq.len c3, .slice a4 fq.len c4] 27) = W7 at *
  generalize w6.heap.size = g2 at *
  clear hb7 HB6 HV6 HB5 HRB5 HP5 HEV2
  obtain ⟨i0, hi0, hz00, hz1, hz2⟩ := info_parts Tryz.infoS
  have E1 : Hid (0 + n ≤ maxLen) := Lib.hid (by unfold maxLen; omega)
  have E2 : Hid ((0 + n) * 32 ≤ 140737488355328) := Lib.hid (by omega)
  have E3 : Hid (n + m ≤ maxLen) := Lib.hid (by unfold maxLen; omega)
  have E4 : Hid ((n + m) * 32 ≤ 140737488355328) := Lib.hid (by omega)
  have HE7 := Lib.hid (owns_empty W7 43 3)
  have HSA7 := Lib.hid (HSA.out.keep HB7.out HAL.out)
  have HAL7 := Lib.hid (Nat.lt_of_lt_of_le HAL.out HB7.out.size)
  go_upto_region 6 with (first | (at_builtin; refine wpList_append_lies _ rfl _ _ 22 rfl W7.heap.size 43 i0 (.agg #[.int .u8 0, .string ⟨#[]⟩, .int .i64 0]) 3 32 Tryz.underlying22 hi0 hz00 hz1 hz2 rfl (by decide) (.slice (some ⟨W7.heap.size, 0, none⟩) 0 0) 0 [] (by rfl) HE7.out ⟨a0, oa, none⟩ n c0 (scells la) (by rfl) HSLA.out (steps_cells (HSA7.out.keep (below_new _) HAL7.out)) HS1A.out hpa E1.out E2.out (by simp) (W7.heap.size + 1) (by simp) ?_; intro g8 cap8 w8 hown hgrow hat2 hlt2; have HB8 := Lib.hid ((below_new (w := W7) (.cells #[] 43)).grown hgrow (by simp) (fun k hk => by cases hk; exact Nat.le_refl _)); rw [Nat.zero_add] at hown; have HO8 := Lib.hid hown; have HSB8 := Lib.hid ((HSB.out.keep HB7.out HBL.out).keep HB8.out (Nat.lt_of_lt_of_le HBL.out HB7.out.size)); clear hown hgrow hat2 hlt2) | (at_builtin; refine wpList_append_lies _ rfl _ _ 22 rfl W7.heap.size 43 i0 (.agg #[.int .u8 0, .string ⟨#[]⟩, .int .i64 0]) 3 32 Tryz.underlying22 hi0 hz00 hz1 hz2 rfl (by decide) (.slice (some ⟨g8, 0, none⟩) n cap8) n ([] ++ scells la) (by rfl) HO8.out ⟨b0, ob, none⟩ m c0' (scells lb) (by rfl) HSLB.out (steps_cells HSB8.out) HS1B.out hpb E3.out E4.out (by have := HB8.out.size; omega) w8.heap.size rfl ?_; intro g9 cap9 w9 hown hgrow hat2 hlt2; have HB9 := Lib.hid (HB8.out.grown hgrow HB8.out.size (fun k hk => (HO8.out.lt k hk).1)); have HO9 := Lib.hid hown; clear hown hgrow hat2 hlt2))
  have HBW := Lib.hid (below_call0 HB7.out HB7.out.size HB9.out)
  have HROW := Lib.hid (HRB7.out.keep HB9.out)
  have HP := Lib.hid (HP7.out.keep HB9.out)
  have HQ := Lib.hid (HQ7.out.keep HB9.out)
  have HRA : Hid (RowS w9 la (some ⟨a0, oa, none⟩)) := Lib.hid (RowS.keep (Or.inr ⟨a0, oa, rfl, HSA7.out⟩) HB9.out)
  have HRAB : Hid (RowS w9 (la ++ lb) (some ⟨g9, 0, none⟩)) := Lib.hid (step_row (B := W7.heap.size) (c := cap9) (by rw [show (la ++ lb).length = n + m by simp [HN.out, HM.out], scells_app]; exact HO9.out))
  have HSAB := Lib.hid (steps_app HSTA.out HSTB.out)
  clear HB7 HRB7 HP7 HQ7 HO8 HB8 HSB8 HSA7 HAL7 HE7 E1 E2 E3 E4 hi0 hz00 hz1 hz2 HO9 HB9
  go_upto_region 8 with (fail)
  clear d1 hw2 hw3
  have HLN0 := Lib.hid (logic_isnull HLP.out (by simp [HN.out]; omega))
  refine logRun8 HLD HN HM hlen hpa hpb HSTA HSAB HBW HROW HRA HRAB HLN0 ?_
  intro g12 W12 u2 u3 u4 u6 u8 u10 u14 u15 u16 u17 u18 u19 u20 u21 u22 u23 u24 u25 u26 u27 u28 u29 u30 u31 u32 u33 u34 u35 u36 u37 u38 u39 u40 u41 u42 u43 u44 u45 u46 u47 u48 u49 u50 u51 u52 u53 u54 u55 u56 u57 u58 u59 u60 u61 u62 u63 u64 u65 u66 u67 u68 u69 u70 u71 u72 u73 u74 u75 u76 u77 u78 u79 u80 u81 u82 u83 u84 u85 u86 u87 u88 u89 u90 u91 u92 u93 u94 u95 u96 u97 u98 u99 u100 u101 u102 u103 u104 u105 u106 u107 u108 u109 u110 u111 u112 u113 u114 u115 u116 u117 u118 u119 u120 u121 u122 u123 u124 u125 u126 u127 u128 u129 u130 u131 u132 u133 u134 u135 u136 u137 u138 u139 u140 u141 u142 u143 u144 u145 u146 u147 u148 u149 u150 u151 u152 u153 u154 u155 u156 u157 u158 u159 u160 u161 u162 u163 u164 u165 u166 u167 u168 u169 u170 u171 u172 u173 u174 u175 u176 u177 u178 u179 u180 u181 u182 u183 u184 u185 u186 u187 u188 u189 u190 u191 u192 u193 hcd
  clear HLN0
  have k0 := HROW.out.keep hcd.1
  have k1 := HP.out.keep hcd.1
  have k2 := HQ.out.keep hcd.1
  have k3 := RowS.keep HRA.out hcd.1
  have k4 := RowS.keep HRAB.out hcd.1
  have k5 := below_call0 HBW.out HBW.out.size hcd.1
  have HXg12 := Lib.hid hcd.2
  clear hcd HROW HP HQ HRA HRAB HBW
  have HROW := Lib.hid k0
  have HP := Lib.hid k1
  have HQ := Lib.hid k2
  have HRA := Lib.hid k3
  have HRAB := Lib.hid k4
  have HBW := Lib.hid k5
  clear k0 k1 k2 k3 k4 k5
  go_upto_region 9 with (fail)
  obtain ⟨a12, e12, b12, f12, hz12, hv12⟩ := HXg12.out.cells
  have hs0 := fun (w' : World) (hb : Below W12.heap.size W12 w') => Same_any (.mk 1 (kp == 0) 0 ⟨#[]⟩ .nil .nil) (.mk 1 (kp == 0) 0 ⟨#[]⟩ .nil .nil) w' _ _ w'.heap.size (RV.keep (Same.of_below hb) (Nat.zero_le _) hb.size _ _ hv12) (rv_truth (kp == 0) w') (Nat.le_refl _)
  rw [show sameV (.mk 1 (kp == 0) 0 ⟨#[]⟩ .nil .nil) (.mk 1 (kp == 0) 0 ⟨#[]⟩ .nil .nil) = true from sameV_refl' _] at hs0
  have HSM := Lib.hid hs0
  have HZ12 := Lib.hid hz12
  obtain ⟨x0, x1, x2, x3, x4, x5, x6⟩ := cells6 HZ12.out
  obtain ⟨y0, y1, y2, y3, y4, y5, y6⟩ := cells6 HP.out.1
  clear hs0 hz12 hv12
  go_cut [74] (fun c wx => c = .bool false ∧ Below W12.heap.size W12 wx)
  case first =>
    go_region_with (first | (go_at_call 12; refine (ltruth_calls _ _).mono ?_; rintro e w5 ⟨rfl, hb5⟩; have HB5 := Lib.hid (below_call0 (Below.drew (Below.refl W12.heap.size W12)) (Nat.le_refl _) hb5); clear hb5 x0 x1 x2 x3 x4 x5 x6 y0 y1 y2 y3 y4 y5 y6; obtain ⟨x0, x1, x2, x3, x4, x5, x6⟩ := cells6 (blk HB5.out HZ12.out); obtain ⟨y0, y1, y2, y3, y4, y5, y6⟩ := cells6 (HP.out.keep HB5.out).1) | (go_at_call 11; refine (HSM.out _ HB5.out).mono ?_; rintro e w6 ⟨rfl, hb6⟩; have HB6 := Lib.hid (below_call0 HB5.out HB5.out.size hb6); clear hb6))
    all_goals (go_wp2_with fail)
    all_goals go_meet
    all_goals (exact ⟨rfl, HB6.out⟩)
  case rest =>
    obtain ⟨rfl, hb⟩ := hcut
    have k0 := HROW.out.keep hb
    have k1 := HP.out.keep hb
    have k2 := HQ.out.keep hb
    have k3 := RowS.keep HRA.out hb
    have k4 := RowS.keep HRAB.out hb
    have k5 := below_call0 HBW.out HBW.out.size hb
    clear HSM HZ12 HXg12 x0 x1 x2 x3 x4 x5 x6 y0 y1 y2 y3 y4 y5 y6 hb HROW HP HQ HRA HRAB HBW
    have HROW := Lib.hid k0
    have HP := Lib.hid k1
    have HQ := Lib.hid k2
    have HRA := Lib.hid k3
    have HRAB := Lib.hid k4
    have HBW := Lib.hid k5
    clear k0 k1 k2 k3 k4 k5
    obtain ⟨W13, hW⟩ : ∃ x, x = wc := ⟨_, rfl⟩
    subst hW
    obtain ⟨y0, y1, y2, y3, y4, y5, y6⟩ := cells6 HP.out.1
    obtain ⟨x0, x1, x2, x3, x4, x5, x6⟩ := cells6 HQ.out.1
    cases qp : (kp == 1) with
    | false =>
      go_upto_region 17 with (fail)
      clear x0 x1 x2 x3 x4 x5 x6 y0 y1 y2 y3 y4 y5 y6
      exact logTail17 HLD HN HM hlen hpa hpb HLP HLQ HSTA HSAB HBW HROW HP HQ HRA HRAB (by assumption)
    | true =>
      cases qq : (kq == 1) with
      | false =>
        go_upto_region 17 with (fail)
        clear x0 x1 x2 x3 x4 x5 x6 y0 y1 y2 y3 y4 y5 y6
        exact logTail17 HLD HN HM hlen hpa hpb HLP HLQ HSTA HSAB HBW HROW HP HQ HRA HRAB (by assumption)
      | true =>
        go_upto_region 12 with (fail)
        clear x0 x1 x2 x3 x4 x5 x6 y0 y1 y2 y3 y4 y5 y6
        have hp1 : kp = 1 := by simpa using qp
        have hq1 : kq = 1 := by simpa using qq
        obtain ⟨⟨kx, bx, nx, sx, lx, fx⟩, hx, hbx⟩ := logic_two 21 (Or.inl rfl) HLP.out HLQ.out (by rw [HN.out, HM.out]; exact hlen) hp1 hq1
        obtain ⟨⟨kY, bY, nY, sY, lY, fY⟩, hY, hbY⟩ := logic_two 22 (Or.inr rfl) HLP.out HLQ.out (by rw [HN.out, HM.out]; exact hlen) hp1 hq1
        have HBX : Hid (bx = (bp && bq)) := Lib.hid (by simpa [VT.bool] using hbx)
        have HBY : Hid (bY = (bp || bq)) := Lib.hid (by simpa [VT.bool] using hbY)
        have hz := logic_not HLP.out (by rw [HN.out]; omega) hp1
        have HLX := Lib.hid hx
        have HLY := Lib.hid hY
        have HLZ := Lib.hid hz
        clear hx hY hz hbx hbY qp qq
        refine logRun12 HLD HN HM hlen hpa hpb HSTA HSAB HBW HROW HRA HRAB HLX ?_
        intro g14 W14 u2 u3 u4 u6 u8 u10 u12 u13 u16 u17 u18 u19 u20 u21 u22 u23 u24 u25 u26 u27 u28 u29 u30 u31 u32 u33 u34 u35 u36 u37 u38 u39 u40 u41 u42 u43 u44 u45 u46 u47 u48 u49 u50 u51 u52 u53 u54 u55 u56 u57 u58 u59 u60 u61 u62 u63 u64 u65 u66 u67 u68 u69 u70 u71 u72 u73 u74 u75 u76 u77 u78 u79 u80 u81 u82 u83 u84 u85 u86 u87 u88 u89 u90 u91 u92 u93 u94 u95 u96 u97 u98 u99 u100 u101 u102 u103 u104 u105 u106 u107 u108 u109 u110 u111 u112 u113 u114 u115 u116 u117 u118 u119 u120 u121 u122 u123 u124 u125 u126 u127 u128 u129 u130 u131 u132 u133 u134 u135 u136 u137 u138 u139 u140 u141 u142 u143 u144 u145 u146 u147 u148 u149 u150 u151 u152 u153 u154 u155 u156 u157 u158 u159 u160 u161 u162 u163 u164 u165 u166 u167 u168 u169 u170 u171 u172 u173 u174 u175 u176 u177 u178 u179 u180 u181 u182 u183 u184 u185 u186 u187 u188 u189 u190 u191 u192 u193 hcd
        have k0 := HROW.out.keep hcd.1
        have k1 := HP.out.keep hcd.1
        have k2 := HQ.out.keep hcd.1
        have k3 := RowS.keep HRA.out hcd.1
        have k4 := RowS.keep HRAB.out hcd.1
        have k5 := below_call0 HBW.out HBW.out.size hcd.1
        have HXg14 := Lib.hid hcd.2
        clear hcd HROW HP HQ HRA HRAB HBW
        have HROW := Lib.hid k0
        have HP := Lib.hid k1
        have HQ := Lib.hid k2
        have HRA := Lib.hid k3
        have HRAB := Lib.hid k4
        have HBW := Lib.hid k5
        clear k0 k1 k2 k3 k4 k5
        go_upto_region 13 with (fail)
        refine logRun13 HLD HN HM hlen hpa hpb HSTA HSAB HBW HROW HRA HRAB HLY ?_
        intro g16 W16 u2 u3 u4 u6 u8 u10 u12 u13 u18 u19 u20 u21 u22 u23 u24 u25 u26 u27 u28 u29 u30 u31 u32 u33 u34 u35 u36 u37 u38 u39 u40 u41 u42 u43 u44 u45 u46 u47 u48 u49 u50 u51 u52 u53 u54 u55 u56 u57 u58 u59 u60 u61 u62 u63 u64 u65 u66 u67 u68 u69 u70 u71 u72 u73 u74 u75 u76 u77 u78 u79 u80 u81 u82 u83 u84 u85 u86 u87 u88 u89 u90 u91 u92 u93 u94 u95 u96 u97 u98 u99 u100 u101 u102 u103 u104 u105 u106 u107 u108 u109 u110 u111 u112 u113 u114 u115 u116 u117 u118 u119 u120 u121 u122 u123 u124 u125 u126 u127 u128 u129 u130 u131 u132 u133 u134 u135 u136 u137 u138 u139 u140 u141 u142 u143 u144 u145 u146 u147 u148 u149 u150 u151 u152 u153 u154 u155 u156 u157 u158 u159 u160 u161 u162 u163 u164 u165 u166 u167 u168 u169 u170 u171 u172 u173 u174 u175 u176 u177 u178 u179 u180 u181 u182 u183 u184 u185 u186 u187 u188 u189 u190 u191 u192 u193 hcd
        have k0 := HROW.out.keep hcd.1
        have k1 := HP.out.keep hcd.1
        have k2 := HQ.out.keep hcd.1
        have k3 := RowS.keep HRA.out hcd.1
        have k4 := RowS.keep HRAB.out hcd.1
        have k5 := below_call0 HBW.out HBW.out.size hcd.1
        have k6 := HXg14.out.keep hcd.1
        have HXg16 := Lib.hid hcd.2
        clear hcd HROW HP HQ HRA HRAB HBW HXg14
        have HROW := Lib.hid k0
        have HP := Lib.hid k1
        have HQ := Lib.hid k2
        have HRA := Lib.hid k3
        have HRAB := Lib.hid k4
        have HBW := Lib.hid k5
        have HXg14 := Lib.hid k6
        clear k0 k1 k2 k3 k4 k5 k6
        go_upto_region 14 with (fail)
        refine logRun14 HLD HN HM hlen hpa hpb HSTA HSAB HBW HROW HRA HRAB HLZ ?_
        intro g18 W18 u2 u3 u4 u6 u8 u10 u12 u13 u20 u21 u22 u23 u24 u25 u26 u27 u28 u29 u30 u31 u32 u33 u34 u35 u36 u37 u38 u39 u40 u41 u42 u43 u44 u45 u46 u47 u48 u49 u50 u51 u52 u53 u54 u55 u56 u57 u58 u59 u60 u61 u62 u63 u64 u65 u66 u67 u68 u69 u70 u71 u72 u73 u74 u75 u76 u77 u78 u79 u80 u81 u82 u83 u84 u85 u86 u87 u88 u89 u90 u91 u92 u93 u94 u95 u96 u97 u98 u99 u100 u101 u102 u103 u104 u105 u106 u107 u108 u109 u110 u111 u112 u113 u114 u115 u116 u117 u118 u119 u120 u121 u122 u123 u124 u125 u126 u127 u128 u129 u130 u131 u132 u133 u134 u135 u136 u137 u138 u139 u140 u141 u142 u143 u144 u145 u146 u147 u148 u149 u150 u151 u152 u153 u154 u155 u156 u157 u158 u159 u160 u161 u162 u163 u164 u165 u166 u167 u168 u169 u170 u171 u172 u173 u174 u175 u176 u177 u178 u179 u180 u181 u182 u183 u184 u185 u186 u187 u188 u189 u190 u191 u192 u193 hcd
        have k0 := HROW.out.keep hcd.1
        have k1 := HP.out.keep hcd.1
        have k2 := HQ.out.keep hcd.1
        have k3 := RowS.keep HRA.out hcd.1
        have k4 := RowS.keep HRAB.out hcd.1
        have k5 := below_call0 HBW.out HBW.out.size hcd.1
        have k6 := HXg14.out.keep hcd.1
        have k7 := HXg16.out.keep hcd.1
        have HXg18 := Lib.hid hcd.2
        clear hcd HROW HP HQ HRA HRAB HBW HXg14 HXg16
        have HROW := Lib.hid k0
        have HP := Lib.hid k1
        have HQ := Lib.hid k2
        have HRA := Lib.hid k3
        have HRAB := Lib.hid k4
        have HBW := Lib.hid k5
        have HXg14 := Lib.hid k6
        have HXg16 := Lib.hid k7
        clear k0 k1 k2 k3 k4 k5 k6 k7
        obtain ⟨a14, e14, b14, f14, hz14, hv14⟩ := HXg14.out.cells
        obtain ⟨a16, e16, b16, f16, hz16, hv16⟩ := HXg16.out.cells
        obtain ⟨a18, e18, b18, f18, hz18, hv18⟩ := HXg18.out.cells
        obtain ⟨x0, x1, x2, x3, x4, x5, x6⟩ := cells6 hz14
        obtain ⟨y0, y1, y2, y3, y4, y5, y6⟩ := cells6 hz16
        obtain ⟨z0, z1, z2, z3, z4, z5, z6⟩ := cells6 hz18
        obtain ⟨v0, v1, v2, v3, v4, v5, v6⟩ := cells6 HP.out.1
        obtain ⟨t0, t1, t2, t3, t4, t5, t6⟩ := cells6 HQ.out.1
        have ex := HBX.out
        have ey := HBY.out
        clear hz14 hz16 hz18 hv14 hv16 hv18 HXg14 HXg16 HXg18 HBX HBY HLX HLY HLZ
        cases bp with
        | false =>
          cases bq with
          | false =>
            simp only [Bool.and_false, Bool.and_true, Bool.or_false, Bool.or_true] at ex ey
            subst ex ey
            go_upto_region 17 with (fail)
            clear x0 x1 x2 x3 x4 x5 x6 y0 y1 y2 y3 y4 y5 y6 z0 z1 z2 z3 z4 z5 z6 v0 v1 v2 v3 v4 v5 v6 t0 t1 t2 t3 t4 t5 t6
            exact logTail17 HLD HN HM hlen hpa hpb HLP HLQ HSTA HSAB HBW HROW HP HQ HRA HRAB (by assumption)
          | true =>
            simp only [Bool.and_false, Bool.and_true, Bool.or_false, Bool.or_true] at ex ey
            subst ex ey
            go_upto_region 17 with (fail)
            clear x0 x1 x2 x3 x4 x5 x6 y0 y1 y2 y3 y4 y5 y6 z0 z1 z2 z3 z4 z5 z6 v0 v1 v2 v3 v4 v5 v6 t0 t1 t2 t3 t4 t5 t6
            exact logTail17 HLD HN HM hlen hpa hpb HLP HLQ HSTA HSAB HBW HROW HP HQ HRA HRAB (by assumption)
        | true =>
          cases bq with
          | false =>
            simp only [Bool.and_false, Bool.and_true, Bool.or_false, Bool.or_true] at ex ey
            subst ex ey
            go_upto_region 17 with (fail)
            clear x0 x1 x2 x3 x4 x5 x6 y0 y1 y2 y3 y4 y5 y6 z0 z1 z2 z3 z4 z5 z6 v0 v1 v2 v3 v4 v5 v6 t0 t1 t2 t3 t4 t5 t6
            exact logTail17 HLD HN HM hlen hpa hpb HLP HLQ HSTA HSAB HBW HROW HP HQ HRA HRAB (by assumption)
          | true =>
            simp only [Bool.and_false, Bool.and_true, Bool.or_false, Bool.or_true] at ex ey
            subst ex ey
            go_upto_region 17 with (fail)
            clear x0 x1 x2 x3 x4 x5 x6 y0 y1 y2 y3 y4 y5 y6 z0 z1 z2 z3 z4 z5 z6 v0 v1 v2 v3 v4 v5 v6 t0 t1 t2 t3 t4 t5 t6
            exact logTail17 HLD HN HM hlen hpa hpb HLP HLQ HSTA HSAB HBW HROW HP HQ HRA HRAB (by assumption)
end Go.Proofs.YtbemgcjckchdjaaGreatDoor
/- codicillaw11.ExprLogic: the walk (printed by genlog.py). -/
namespace Go.Proofs.YtbemgcjckchdjaaGreatDoor
open Go.RowKit
set_option linter.unusedSimpArgs false
set_option linter.unusedVariables false
set_option maxHeartbeats 4000000
set_option maxRecDepth 100000
theorem logE_calls (la lb : List ST) (A0 B0 : Option Addr) (c0 c0' : Nat) (row : VT) (r0 r1 r2 r3 r4 r5 : Value) (w : World) (hL : Laid w) (hla : la.length ≤ LIM) (hlb : lb.length ≤ LIM) (hsta : ∀ s ∈ la, StOk s) (hstb : ∀ s ∈ lb, StOk s) (hra : RowS w la A0) (hrb : RowS w lb B0) (hr : RV w 0 w.heap.size row [r0, r1, r2, r3, r4, r5])
    (kp : Int) (bp : Bool) (np : Int) (sp : ByteArray) (lp : VL) (fp : FL) (ep : Int) (hp : evalE la row = (.mk kp bp np sp lp fp, ep)) (kq : Int) (bq : Bool) (nq : Int) (sq : ByteArray) (lq : VL) (fq : FL) (eq : Int) (hq : evalE lb row = (.mk kq bq nq sq lq fq, eq)) (hc : ep ≠ 0 ∨ eq ≠ 0 ∨ 128 < la.length + lb.length + 2) :
    Calls Tryz.prog 3 #[.slice A0 la.length c0, .slice B0 lb.length c0', .agg #[r0, r1, r2, r3, r4, r5]] w fun e w' => e = .returned (.bool true) ∧ Below w.heap.size w w' := by
  have hr0 := hr
  obtain ⟨kr, br, nr, sr, lr, fr, ar1, cr1, ar2, cr2, hre, er, hjx⟩ := RV.mk_parts hr
  simp only [List.cons.injEq, and_true] at er
  obtain ⟨rfl, rfl, rfl, rfl, rfl, rfl⟩ := er
  clear hjx hr hre
  have hb0 := below_new (w := w) (.cells #[.int .u8 kr, .bool br, .int .i64 nr, .string sr, .slice ar1 lr.len cr1, .slice ar2 fr.len cr2] 27)
  have hrbx : RowBox w.heap.size row (w.alloc (.cells #[.int .u8 kr, .bool br, .int .i64 nr, .string sr, .slice ar1 lr.len cr1, .slice ar2 fr.len cr2] 27)) (.int .u8 kr) (.bool br) (.int .i64 nr) (.string sr) (.slice ar1 lr.len cr1) (.slice ar2 fr.len cr2) := ⟨heap_last _ _, hr0.grow hb0⟩
  have HLV := Lib.hid (lives_calls _ (hL.below hb0))
  have HLD := Lib.hid hL
  have HB0 := Lib.hid hb0
  have HRB0 := Lib.hid hrbx
  have HEV1 := Lib.hid (fun (w' : World) (hb : Below w.heap.size w w') => evalM_calls la A0 c0 row _ _ _ _ _ _ w' hla hsta (hL.below hb) (RowS.keep hra hb) (hr0.grow hb))
  have HEV2 := Lib.hid (fun (w' : World) (hb : Below w.heap.size w w') => evalM_calls lb B0 c0' row _ _ _ _ _ _ w' hlb hstb (hL.below hb) (RowS.keep hrb hb) (hr0.grow hb))
  rw [hp] at HEV1
  rw [hq] at HEV2
  have HRA := Lib.hid hra
  have HRB := Lib.hid hrb
  unfold LIM at hla hlb
  have hn1 : 0 + la.length ≤ 4194304 := by omega
  have hn2 : la.length + lb.length ≤ 4194304 := by omega
  have hw2 : wrap64 (((la.length + lb.length : Nat) : Int) + 2) = ((la.length + lb.length : Nat) : Int) + 2 := IntWalk.wrap64_in _ (by omega)
  have hw3 : IntKind.i64.wrap (((la.length + lb.length : Nat) : Int) + 2) = ((la.length + lb.length : Nat) : Int) + 2 := IntWalk.i64_in _ (by omega)
  clear hb0 hrbx hL hsta hstb hra hrb hr0 hp hq
  go_enter Tryz.func3, Tryz.ntmps3
  go_upto_region 3 with (go_at_call 8; (with_reducible refine (HLV.out).mono ?_); rintro e w1 ⟨rfl, hb1⟩; have HB1 := Lib.hid (below_call0 HB0.out HB0.out.size hb1); have HRB1 := Lib.hid (HRB0.out.keep hb1); clear hb1)
  clear HLV HB0 HRB0
  obtain ⟨y0, y1, y2, y3, y4, y5, y6⟩ := cells6 HRB1.out.1
  go_upto_region 4 with (go_at_call 9; (with_reducible refine (HEV1.out _ HB1.out).mono ?_); intro e w4 hev; obtain ⟨hb4, a1, c1, a2, c2, rfl, hv4⟩ := hev.parts; have HB4 := Lib.hid hb4; have HV4 := Lib.hid hv4; clear hev hb4 hv4)
  clear y0 y1 y2 y3 y4 y5 y6
  have hb5 := below_call0 HB4.out HB4.out.size (below_new (w := w4) (.cells #[.int .u8 kp, .bool bp, .int .i64 np, .string sp, .slice a1 lp.len c1, .slice a2 fp.len c2] 27))
  have HB5 := Lib.hid (below_call0 HB1.out HB1.out.size hb5)
  have HRB5 := Lib.hid (HRB1.out.keep hb5)
  have HP5 : Hid (RowBox w4.heap.size (.mk kp bp np sp lp fp) (w4.alloc (.cells #[.int .u8 kp, .bool bp, .int .i64 np, .string sp, .slice a1 lp.len c1, .slice a2 fp.len c2] 27)) (.int .u8 kp) (.bool bp) (.int .i64 np) (.string sp) (.slice a1 lp.len c1) (.slice a2 fp.len c2)) := Lib.hid ⟨heap_last _ _, RV.grow (RV.keep (Same.of_below (Below.refl _ _)) (Nat.zero_le _) (Nat.le_refl _) _ _ HV4.out) (below_new _)⟩
  generalize w4.alloc (.cells #[.int .u8 kp, .bool bp, .int .i64 np, .string sp, .slice a1 lp.len c1, .slice a2 fp.len c2] 27) = W5 at *
  generalize w4.heap.size = g1 at *
  clear hb5 HB4 HV4 HB1 HRB1 HEV1
  obtain ⟨y0, y1, y2, y3, y4, y5, y6⟩ := cells6 HRB5.out.1
  go_upto_region 5 with (go_at_call 9; (with_reducible refine (HEV2.out _ HB5.out).mono ?_); intro e w6 hev; obtain ⟨hb6, a3, c3, a4, c4, rfl, hv6⟩ := hev.parts; have HB6 := Lib.hid hb6; have HV6 := Lib.hid hv6; clear hev hb6 hv6)
  clear y0 y1 y2 y3 y4 y5 y6
  have hb7 := below_call0 HB6.out HB6.out.size (below_new (w := w6) (.cells #[.int .u8 kq, .bool bq, .int .i64 nq, .string sq, .slice a3 lq.len c3, .slice a4 fq.len c4] 27))
  have HB7 := Lib.hid (below_call0 HB5.out HB5.out.size hb7)
  have HRB7 := Lib.hid (HRB5.out.keep hb7)
  have HP7 := Lib.hid (HP5.out.keep hb7)
  have HQ7 : Hid (RowBox w6.heap.size (.mk kq bq nq sq lq fq) (w6.alloc (.cells #[.int .u8 kq, .bool bq, .int .i64 nq, .string sq, .slice a3 lq.len c3, .slice a4 fq.len c4] 27)) (.int .u8 kq) (.bool bq) (.int .i64 nq) (.string sq) (.slice a3 lq.len c3) (.slice a4 fq.len c4)) := Lib.hid ⟨heap_last _ _, RV.grow (RV.keep (Same.of_below (Below.refl _ _)) (Nat.zero_le _) (Nat.le_refl _) _ _ HV6.out) (below_new _)⟩
  generalize w6.alloc (.cells #[.int .u8 kq, .bool bq, .int .i64 nq, .string sq, .slice a3 lq.len c3, .slice a4 fq.len c4] 27) = W7 at *
  generalize w6.heap.size = g2 at *
  clear hb7 HB6 HV6 HB5 HRB5 HP5 HEV2
  have HE7 := Lib.hid (owns_empty W7 43 3)
  go_upto_region 6 with (first | (at_builtin; refine wpList_append_steps rfl _ _ rfl W7.heap.size W7.heap.size 0 0 [] (by rfl) HE7.out (Nat.le_refl _) (by simp) la A0 c0 (by rfl) (RowS.keep (RowS.keep HRA.out HB7.out) (below_new _)) hn1 ?_; intro g8 cap8 w8 hown hle hgrow; rw [Nat.zero_add] at hown hle; have HB8 := Lib.hid ((below_new (w := W7) (.cells #[] 43)).grown hgrow (by simp) (fun k hk => by cases hk; exact Nat.le_refl _)); have HO8 := Lib.hid hown; clear hown hgrow) | (at_builtin; refine wpList_append_steps rfl _ _ rfl W7.heap.size g8 la.length cap8 ([] ++ scells la) (by rfl) HO8.out hle HB8.out.size lb B0 c0' (by rfl) (RowS.keep (RowS.keep HRB.out HB7.out) HB8.out) hn2 ?_; intro g9 cap9 w9 hown hle9 hgrow; have HB9 := Lib.hid (HB8.out.grown hgrow HB8.out.size (fun k hk => by cases hk; exact (HO8.out.lt _ rfl).1)); clear hown hgrow))
  have HBW := Lib.hid (below_call0 HB7.out HB7.out.size HB9.out)
  clear HB7 HRB7 HP7 HQ7 HO8 HB8 HB9 HE7 HRA HRB
  by_cases h0 : ep = 0
  case neg =>
    have q0 : (ep != 0) = true := by simpa using h0
    clear h0 hc
    go_wp2_with fail
    go_ret
    exact ⟨rfl, HBW.out⟩
  subst h0
  by_cases h1 : eq = 0
  case neg =>
    have q1 : (eq != 0) = true := by simpa using h1
    clear h1 hc
    go_wp2_with fail
    go_ret
    exact ⟨rfl, HBW.out⟩
  subst h1
  have hgt : 126 < la.length + lb.length := by omega
  obtain ⟨n, hn⟩ : ∃ n, la.length + lb.length = n := ⟨_, rfl⟩
  rw [hn] at hgt hw2 hw3 hn2 ⊢
  have d1 : decide ((128 : Int) < (n : Int) + 2) = true := decide_eq_true (by omega)
  clear hc hn hn1 hla hlb
  go_wp2_with fail
  go_ret
  exact ⟨rfl, HBW.out⟩
end Go.Proofs.YtbemgcjckchdjaaGreatDoor
/- codicillaw11.ExprLogic: in one. -/
namespace Go.Proofs.YtbemgcjckchdjaaGreatDoor
open Go.RowKit
set_option linter.unusedSimpArgs false
set_option linter.unusedVariables false
theorem exprLogic_calls (la lb : List ST) (A0 B0 : Option Addr) (c0 c0' : Nat) (row : VT) (r0 r1 r2 r3 r4 r5 : Value) (w : World) (hL : Laid w) (hla : la.length ≤ LIM) (hlb : lb.length ≤ LIM) (hsta : ∀ s ∈ la, StOk s) (hstb : ∀ s ∈ lb, StOk s) (hra : RowS w la A0) (hrb : RowS w lb B0) (hr : RV w 0 w.heap.size row [r0, r1, r2, r3, r4, r5]) :
    Calls Tryz.prog 3 #[.slice A0 la.length c0, .slice B0 lb.length c0', .agg #[r0, r1, r2, r3, r4, r5]] w fun e w' => e = .returned (.bool true) ∧ Below w.heap.size w w' := by
  obtain ⟨⟨⟨kp, bp, np, sp, lp, fp⟩, ep⟩, hp⟩ : ∃ r : Rz, evalE la row = r := ⟨_, rfl⟩
  obtain ⟨⟨⟨kq, bq, nq, sq, lq, fq⟩, eq⟩, hq⟩ : ∃ r : Rz, evalE lb row = r := ⟨_, rfl⟩
  by_cases hc : ep ≠ 0 ∨ eq ≠ 0 ∨ 128 < la.length + lb.length + 2
  · exact logE_calls la lb A0 B0 c0 c0' row r0 r1 r2 r3 r4 r5 w hL hla hlb hsta hstb hra hrb hr kp bp np sp lp fp ep hp kq bq nq sq lq fq eq hq hc
  · have h1 : ep = 0 := Classical.byContradiction fun h => hc (Or.inl h)
    have h2 : eq = 0 := Classical.byContradiction fun h => hc (Or.inr (Or.inl h))
    subst h1 h2
    exact logic_main la lb A0 B0 c0 c0' row r0 r1 r2 r3 r4 r5 w hL (by omega) hsta hstb hra hrb hr kp bp np sp lp fp hp kq bq nq sq lq fq hq
end Go.Proofs.YtbemgcjckchdjaaGreatDoor
