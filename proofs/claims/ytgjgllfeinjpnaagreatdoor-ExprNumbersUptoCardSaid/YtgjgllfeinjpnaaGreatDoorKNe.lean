import Derived.Test.YtgjgllfeinjpnaaGreatDoorKNd
/- codicillaw11.ExprNumbers: regions 8 to 10 (printed by gennum.py). -/
namespace Go.Proofs.YtgjgllfeinjpnaaGreatDoor
open Go.RowKit
set_option linter.unusedSimpArgs false
set_option linter.unusedVariables false
set_option maxHeartbeats 4000000
set_option maxRecDepth 100000
noncomputable def numReg8 : Code := ((Tryz.f6.body.bind (regOf 8)).getD .skip)
noncomputable def numRest8 : Code := ((Tryz.f6.body.bind (restOf 8)).getD .skip)
theorem numTail8 {a b : Int} {w : World} {W8 : World} {r : Nat} {k1 : Int} {b1 : Bool} {n1 : Int} {s1 : ByteArray} {l1 : VL} {f1 : FL} {e1 : Int} {u2 u3 u4 u6 u8 u9 u10 u11 u12 u13 u14 u15 u16 u17 u18 u19 u20 u21 u22 u23 u24 u25 u26 u27 u28 u29 u30 u31 u32 u33 u34 u35 u36 u37 u38 u39 u40 u41 u42 u43 u44 u45 u46 u47 u48 u49 u50 u51 u52 u53 u54 u55 u56 u57 u58 u59 u60 u61 u62 u63 u64 u65 u66 u67 u68 u69 u70 u71 u72 u73 u74 u75 u76 u77 u78 u79 u80 u81 u82 u83 u84 u85 u86 u87 u88 u89 u90 u91 u92 u93 u94 u95 u96 u97 u98 u99 u100 u101 u102 u103 u104 u105 u106 u107 u108 u109 u110 u111 u112 u113 u114 u115 u116 u117 u118 u119 u120 u121 u122 u123 u124 u125 u126 u127 u128 u129 u130 u131 u132 u133 u134 u135 u136 u137 u138 u139 u140 u141 u142 u143 u144 u145 u146 u147 u148 u149 u150 u151 u152 u153 u154 u155 u156 u157 u158 u159 u160 u161 u162 u163 u164 u165 u166 u167 u168 u169 u170 u171 u172 u173 u174 u175 u176 u177 u178 u179 u180 u181 u182 : Value} {K : Act → World → Prop} (HLD : Hid (Laid w)) (HIA : Hid (I64 a)) (HIB : Hid (I64 b)) (HBW : Hid (Below w.heap.size w W8)) (HROW : Hid (RowAt2 r (intV a) (intV b) W8 (.int .u8 2) (.bool false) (.int .i64 a) (.string ⟨#[]⟩) (.slice none 0 0) (.slice none 0 0) (.int .u8 2) (.bool false) (.int .i64 b) (.string ⟨#[]⟩) (.slice none 0 0) (.slice none 0 0))) (HR1 : Hid (numRz 12 a b = (.mk k1 b1 n1 s1 l1 f1, e1))) (hK : ∀ a' w', Code.wp Tryz.prog numRest8 (bodyPost Tryz.prog Tryz.f6 fun e w' => e = .returned (.bool true) ∧ Below w.heap.size w w') a' w' → K a' w') :
    Code.wp Tryz.prog numReg8 (Exit.then K (bodyPost Tryz.prog Tryz.f6 fun e w' => e = .returned (.bool true) ∧ Below w.heap.size w w')) ⟨List.toArray (.int .i64 a :: .int .i64 b :: u2 :: u3 :: u4 :: .pointer (some ⟨r + 1, 0, none⟩) :: u6 :: .int .i64 e1 :: u8 :: u9 :: u10 :: u11 :: u12 :: u13 :: u14 :: u15 :: u16 :: u17 :: u18 :: u19 :: u20 :: u21 :: u22 :: u23 :: u24 :: u25 :: u26 :: u27 :: u28 :: u29 :: u30 :: u31 :: u32 :: u33 :: u34 :: u35 :: u36 :: u37 :: u38 :: u39 :: u40 :: u41 :: u42 :: u43 :: u44 :: u45 :: u46 :: u47 :: u48 :: u49 :: u50 :: u51 :: u52 :: u53 :: u54 :: u55 :: u56 :: u57 :: u58 :: u59 :: u60 :: u61 :: u62 :: u63 :: u64 :: u65 :: u66 :: u67 :: u68 :: u69 :: u70 :: u71 :: u72 :: u73 :: u74 :: u75 :: u76 :: u77 :: u78 :: u79 :: u80 :: u81 :: u82 :: u83 :: u84 :: u85 :: u86 :: u87 :: u88 :: u89 :: u90 :: u91 :: u92 :: u93 :: u94 :: u95 :: u96 :: u97 :: u98 :: u99 :: u100 :: u101 :: u102 :: u103 :: u104 :: u105 :: u106 :: u107 :: u108 :: u109 :: u110 :: u111 :: u112 :: u113 :: u114 :: u115 :: u116 :: u117 :: u118 :: u119 :: u120 :: u121 :: u122 :: u123 :: u124 :: u125 :: u126 :: u127 :: u128 :: u129 :: u130 :: u131 :: u132 :: u133 :: u134 :: u135 :: u136 :: u137 :: u138 :: u139 :: u140 :: u141 :: u142 :: u143 :: u144 :: u145 :: u146 :: u147 :: u148 :: u149 :: u150 :: u151 :: u152 :: u153 :: u154 :: u155 :: u156 :: u157 :: u158 :: u159 :: u160 :: u161 :: u162 :: u163 :: u164 :: u165 :: u166 :: u167 :: u168 :: u169 :: u170 :: u171 :: u172 :: u173 :: u174 :: u175 :: u176 :: u177 :: u178 :: u179 :: u180 :: u181 :: u182 :: []), []⟩ W8 := by
  conv => arg 2; whnf
  go_cut [10] (fun c wx => c = .bool (fitsB (a + b)) ∧ wx = W8)
  case first =>
    have HLAW := Lib.hid (fits_law a b HIA.out HIB.out)
    clear HR1 HROW HBW
    by_cases h0 : 0 ≤ b
    · have d1 : decide (0 ≤ b) = true := decide_eq_true h0
      have d2 : decide (b < 0) = false := decide_eq_false (by omega)
      have hw := top_wrap HIB.out h0
      have hw2 := wrap64_of hw
      clear h0
      by_cases h2 : a ≤ 9223372036854775807 - b
      · have d3 : decide (a ≤ 9223372036854775807 - b) = true := decide_eq_true h2
        have HE : Hid (true = fitsB (a + b)) := Lib.hid (by rw [← HLAW.out, d1, d2, d3]; rfl)
        clear h2 HLAW
        go_wp2_with fail
        go_meet
        exact ⟨by rw [← HE.out], rfl⟩
      · have d3 : decide (a ≤ 9223372036854775807 - b) = false := decide_eq_false h2
        have HE : Hid (false = fitsB (a + b)) := Lib.hid (by rw [← HLAW.out, d1, d2, d3]; rfl)
        clear h2 HLAW
        go_wp2_with fail
        go_meet
        exact ⟨by rw [← HE.out], rfl⟩
    · have d1 : decide (0 ≤ b) = false := decide_eq_false h0
      have d2 : decide (b < 0) = true := decide_eq_true (by omega)
      have hw := low_wrap HIB.out h0
      have hw2 := wrap64_of hw
      clear h0
      by_cases h2 : -9223372036854775808 - b ≤ a
      · have d3 : decide (-9223372036854775808 - b ≤ a) = true := decide_eq_true h2
        have HE : Hid (true = fitsB (a + b)) := Lib.hid (by rw [← HLAW.out, d1, d2, d3]; rfl)
        clear h2 HLAW
        go_wp2_with fail
        go_meet
        exact ⟨by rw [← HE.out], rfl⟩
      · have d3 : decide (-9223372036854775808 - b ≤ a) = false := decide_eq_false h2
        have HE : Hid (false = fitsB (a + b)) := Lib.hid (by rw [← HLAW.out, d1, d2, d3]; rfl)
        clear h2 HLAW
        go_wp2_with fail
        go_meet
        exact ⟨by rw [← HE.out], rfl⟩
  case rest =>
    obtain ⟨rfl, hwc⟩ := hcut
    rw [hwc]
    clear hwc
    obtain ⟨F1, hF1⟩ : ∃ x, fitsB (a + b) = x := ⟨_, rfl⟩
    rw [hF1]
    have HF1 := Lib.hid hF1
    clear hF1
    refine hK _ _ ?_
    conv => arg 2; whnf
    go_upto_region 9 with (fail)
    obtain ⟨⟨⟨k3, b3, n3, s3, l3, f3⟩, e3⟩, hr3⟩ : ∃ r : Rz, numRz 13 0 a = r := ⟨_, rfl⟩
    have HOF := Lib.hid (fun (w' : World) (hb : Below W8.heap.size W8 w') => of_calls tn3 sn3 w' (HLD.out.below (below_call0 HBW.out HBW.out.size hb)) (by decide) conn3 (goodB_all goodn3).2.2.2)
    have hev0 := fun (w' : World) (A : Option Addr) (c : Nat) (hb : Below W8.heap.size W8 w') (hr : RowS w' sn3 A) => eval_calls sn3 A c (row2 (intV a) (intV b)) _ _ _ _ _ _ w' (goodB_all goodn3).2.2.1 (goodB_all goodn3).1 (goodB_all goodn3).2.1 (HLD.out.below (below_call0 HBW.out HBW.out.size hb)) hr (HROW.out.keep hb).rv
    rw [evaln3, hr3] at hev0
    have HEV := Lib.hid hev0
    clear hev0
    obtain ⟨ln, hln⟩ : ∃ x, (sn3).length = x := ⟨_, rfl⟩
    rw [hln] at HOF HEV
    unfold tn3 at HOF
    generalize sn3 = sts at HOF HEV
    clear hln
    have HDA := Lib.hid (below_new (w := W8) zeroO)
    have HDZ := Lib.hid (heap_last W8 zeroO)
    obtain ⟨y0, y1, y2, y3, y4, y5, y6⟩ := cells6 HROW.out.2.1
    obtain ⟨x0, x1, x2, x3, x4, x5, x6⟩ := cells6 (blk_alloc (o := zeroO) HROW.out.2.1)
    go_cut [11, 12] (fun s11 s12 wx => ∃ g, s11 = .pointer (some ⟨g, 0, none⟩) ∧ s12 = .int .i64 e3 ∧ Cut W8 wx g (.mk k3 b3 n3 s3 l3 f3))
    case first =>
      go_region_with (first | (go_at_call 12; first | ((with_reducible refine (HOF.out _ (Below.drew (Below.refl _ _))).mono ?_); rintro e w5 ⟨A5, c5, rfl, hr5, hc5, hb5⟩; have HB5 := Lib.hid (below_call0 (Below.drew (Below.refl W8.heap.size W8)) (Nat.le_refl _) hb5); have HR5 := Lib.hid hr5; clear hr5 hb5 y0 y1 y2 y3 y4 y5 y6 x0 x1 x2 x3 x4 x5 x6; obtain ⟨y0, y1, y2, y3, y4, y5, y6⟩ := cells6 (HROW.out.keep HB5.out).2.1; obtain ⟨x0, x1, x2, x3, x4, x5, x6⟩ := cells6 (blk_alloc (o := zeroO) (HROW.out.keep HB5.out).2.1)) | ((with_reducible refine (HOF.out _ (Below.drew HDA.out)).mono ?_); rintro e w5 ⟨A5, c5, rfl, hr5, hc5, hb5⟩; have HB5 := Lib.hid (below_call0 (Below.drew HDA.out) HDA.out.size hb5); have HZ5 := Lib.hid (blk (W := (W8.alloc zeroO).drew) hb5 HDZ.out); have HR5 := Lib.hid hr5; clear hr5 hb5 y0 y1 y2 y3 y4 y5 y6 x0 x1 x2 x3 x4 x5 x6; obtain ⟨y0, y1, y2, y3, y4, y5, y6⟩ := cells6 (HROW.out.keep HB5.out).2.1; obtain ⟨x0, x1, x2, x3, x4, x5, x6⟩ := cells6 (blk_alloc (o := zeroO) (HROW.out.keep HB5.out).2.1))) | (go_at_call 13; first | ((with_reducible refine (HEV.out w5 A5 c5 HB5.out HR5.out).mono ?_); intro e w8 hev; obtain ⟨hb8, a1, c1, a2, c2, rfl, hv8⟩ := hev.parts; have HB8 := Lib.hid hb8; have HV8 := Lib.hid hv8; clear hev hb8 hv8; first | (have hz8 := blk HB8.out HZ5.out; obtain ⟨z0, z1, z2, z3, z4, z5, z6⟩ := cells6 hz8; clear hz8) | skip) | ((with_reducible refine (HEV.out (w5.alloc zeroO) A5 c5 (below_call0 HB5.out HB5.out.size (below_new _)) (RowS.keep HR5.out (below_new _))).mono ?_); intro e w8 hev; obtain ⟨hb8, a1, c1, a2, c2, rfl, hv8⟩ := hev.parts; have HB8 := Lib.hid hb8; have HV8 := Lib.hid hv8; clear hev hb8 hv8; obtain ⟨z0, z1, z2, z3, z4, z5, z6⟩ := cells6 (blk HB8.out (heap_last w5 zeroO)))))
      all_goals (go_wp2_with fail)
      all_goals go_meet
      all_goals (refine ⟨_, rfl, rfl, ?_⟩)
      all_goals first | (have hz := blk HB8.out HZ5.out; have hc := cutA (below_call0 HB5.out HB5.out.size HB8.out) hz HV8.out (lt_of_block HZ5.out); with_reducible exact hc) | (have hc := cutD (below_call0 HB5.out HB5.out.size HB8.out) HV8.out HB5.out.size; with_reducible exact hc) | (have hc := cutB HB5.out HB8.out HV8.out; with_reducible exact hc)
    case rest =>
      obtain ⟨g11, rfl, rfl, hcd⟩ := hcut
      have hrow := HROW.out.keep hcd.1
      have hbw := below_call0 HBW.out HBW.out.size hcd.1
      have HX11 := Lib.hid hcd.2
      have HR3 := Lib.hid hr3
      clear HROW HBW HOF HEV HDA HDZ y0 y1 y2 y3 y4 y5 y6 x0 x1 x2 x3 x4 x5 x6 hcd hr3
      have HROW := Lib.hid hrow
      have HBW := Lib.hid hbw
      clear hrow hbw
      obtain ⟨W11, hW⟩ : ∃ x, x = wc := ⟨_, rfl⟩
      subst hW
      go_upto_region 10 with (fail)
      go_cut [116] (fun c wx => c = .bool false ∧ wx = W11)
      case first =>
        have h1 := HR1.out
        have h3 := HR3.out
        have hF := HF1.out
        have hng := neg_fits a HIA.out
        obtain ⟨_, _, _, _, hz11, _⟩ := HX11.out.cells
        obtain ⟨p0, p1, p2, p3, p4, p5, p6⟩ := cells6 hz11
        clear hz11
        clear HR1 HR3 HF1 HX11 HROW HBW
        by_cases hf : fitsB (0 - a) = true
        · rw [num_sub hf, Int.zero_sub] at h3
          rw [hf] at hng
          have hw := neg_wrap hf
          rw [Int.zero_sub] at hw
          have hw2 := wrap64_of hw
          replace hng := hng.symm
          cases h3
          by_cases hf1 : fitsB (a + b) = true
          · rw [num_add hf1] at h1
            rw [hf1] at hF
            cases h1
            subst hF
            clear hf hf1
            go_wp2_with fail
            go_meet
            exact ⟨rfl, rfl⟩
          · rw [num_add_no hf1] at h1
            rw [Bool.eq_false_iff.2 hf1] at hF
            cases h1
            subst hF
            clear hf hf1
            go_wp2_with fail
            go_meet
            exact ⟨rfl, rfl⟩
        · rw [num_sub_no hf] at h3
          rw [Bool.eq_false_iff.2 hf] at hng
          replace hng := hng.symm
          cases h3
          by_cases hf1 : fitsB (a + b) = true
          · rw [num_add hf1] at h1
            rw [hf1] at hF
            cases h1
            subst hF
            clear hf hf1
            go_wp2_with fail
            go_meet
            exact ⟨rfl, rfl⟩
          · rw [num_add_no hf1] at h1
            rw [Bool.eq_false_iff.2 hf1] at hF
            cases h1
            subst hF
            clear hf hf1
            go_wp2_with fail
            go_meet
            exact ⟨rfl, rfl⟩
      case rest =>
        obtain ⟨rfl, hwc⟩ := hcut
        rw [hwc]
        clear hwc
        go_upto_region 12 with (fail)
        exact numTail12 HLD HIA HIB HBW HROW (by assumption)
end Go.Proofs.YtgjgllfeinjpnaaGreatDoor
