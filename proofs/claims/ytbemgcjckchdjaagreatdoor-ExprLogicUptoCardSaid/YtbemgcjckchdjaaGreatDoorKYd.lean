import Derived.Test.YtbemgcjckchdjaaGreatDoorKYr17
import Derived.Test.YtbemgcjckchdjaaGreatDoorKYr19
/- codicillaw11.ExprLogic: the walk from region 17 on (printed by genlog2.py). -/
namespace Go.Proofs.YtbemgcjckchdjaaGreatDoor
open Go.RowKit
set_option linter.unusedSimpArgs false
set_option linter.unusedVariables false
set_option maxHeartbeats 4000000
set_option maxRecDepth 100000
noncomputable def logRest17 : Code := ((Tryz.f3.body.bind (lrest 17)).getD .skip)
theorem logTail17 {la lb : List ST} {a0 oa b0 ob c0 c0' n m g1 g2 g9 cap9 : Nat} {row : VT} {w WX : World} {kr : Int} {br : Bool} {nr : Int} {sr : ByteArray} {ar1 : Option Addr} {lr : VL} {cr1 : Nat} {ar2 : Option Addr} {fr : FL} {cr2 : Nat} {kp : Int} {bp : Bool} {np : Int} {sp : ByteArray} {lp : VL} {fp : FL} {a1 : Option Addr} {c1 : Nat} {a2 : Option Addr} {c2 : Nat} {kq : Int} {bq : Bool} {nq : Int} {sq : ByteArray} {lq : VL} {fq : FL} {a3 : Option Addr} {c3 : Nat} {a4 : Option Addr} {c4 : Nat} {u2 u3 u4 u6 u8 u10 u12 u13 u14 u15 u16 u17 u18 u19 u20 u21 u22 u23 u24 u25 u26 u27 u28 u29 u30 u31 u32 u33 u34 u35 u36 u37 u38 u39 u40 u41 u42 u43 u44 u45 u46 u47 u48 u49 u50 u51 u52 u53 u54 u55 u56 u57 u58 u59 u60 u61 u62 u63 u64 u65 u66 u67 u68 u69 u70 u71 u72 u73 u74 u75 u76 u77 u78 u79 u80 u81 u82 u83 u84 u85 u86 u87 u88 u89 u90 u91 u92 u93 u94 u95 u96 u97 u98 u99 u100 u101 u102 u103 u104 u105 u106 u107 u108 u109 u110 u111 u112 u113 u114 u115 u116 u117 u118 u119 u120 u121 u122 u123 u124 u125 u126 u127 u128 u129 u130 u131 u132 u133 u134 u135 u136 u137 u138 u139 u140 u141 u142 u143 u144 u145 u146 u147 u148 u149 u150 u151 u152 u153 u154 u155 u156 u157 u158 u159 u160 u161 u162 u163 u164 u165 u166 u167 u168 u169 u170 u171 u172 u173 u174 u175 u176 u177 u178 u179 u180 u181 u182 u183 u184 u185 u186 u187 u188 u189 u190 u191 u192 u193 : Value} {K : Act → World → Prop} (HLD : Hid (Laid w)) (HN : Hid (la.length = n)) (HM : Hid (lb.length = m)) (hlen : n + m + 2 ≤ 128) (hpa : 0 < n) (hpb : 0 < m) (HLP : Hid (evalE la row = (.mk kp bp np sp lp fp, 0))) (HLQ : Hid (evalE lb row = (.mk kq bq nq sq lq fq, 0))) (HSTA : Hid (∀ s ∈ la, StOk s)) (HSAB : Hid (∀ s ∈ la ++ lb, StOk s)) (HBW : Hid (Below w.heap.size w WX)) (HROW : Hid (RowBox w.heap.size row WX (.int .u8 kr) (.bool br) (.int .i64 nr) (.string sr) (.slice ar1 lr.len cr1) (.slice ar2 fr.len cr2))) (HP : Hid (RowBox g1 (.mk kp bp np sp lp fp) WX (.int .u8 kp) (.bool bp) (.int .i64 np) (.string sp) (.slice a1 lp.len c1) (.slice a2 fp.len c2))) (HQ : Hid (RowBox g2 (.mk kq bq nq sq lq fq) WX (.int .u8 kq) (.bool bq) (.int .i64 nq) (.string sq) (.slice a3 lq.len c3) (.slice a4 fq.len c4))) (HRA : Hid (RowS WX la (some ⟨a0, oa, none⟩))) (HRAB : Hid (RowS WX (la ++ lb) (some ⟨g9, 0, none⟩))) (hK : ∀ a' w', Code.wp Tryz.prog logRest17 (bodyPost Tryz.prog Tryz.f3 fun e w' => e = .returned (.bool true) ∧ Below w.heap.size w w') a' w' → K a' w') :
    Code.wp Tryz.prog logReg17 (Exit.then K (bodyPost Tryz.prog Tryz.f3 fun e w' => e = .returned (.bool true) ∧ Below w.heap.size w w')) ⟨List.toArray (.slice (some ⟨a0, oa, none⟩) n c0 :: .slice (some ⟨b0, ob, none⟩) m c0' :: u2 :: u3 :: u4 :: .pointer (some ⟨w.heap.size, 0, none⟩) :: u6 :: .pointer (some ⟨g1, 0, none⟩) :: u8 :: .pointer (some ⟨g2, 0, none⟩) :: u10 :: .slice (some ⟨g9, 0, none⟩) (n + m) cap9 :: u12 :: u13 :: u14 :: u15 :: u16 :: u17 :: u18 :: u19 :: u20 :: u21 :: u22 :: u23 :: u24 :: u25 :: u26 :: u27 :: u28 :: u29 :: u30 :: u31 :: u32 :: u33 :: u34 :: u35 :: u36 :: u37 :: u38 :: u39 :: u40 :: u41 :: u42 :: u43 :: u44 :: u45 :: u46 :: u47 :: u48 :: u49 :: u50 :: u51 :: u52 :: u53 :: u54 :: u55 :: u56 :: u57 :: u58 :: u59 :: u60 :: u61 :: u62 :: u63 :: u64 :: u65 :: u66 :: u67 :: u68 :: u69 :: u70 :: u71 :: u72 :: u73 :: u74 :: u75 :: u76 :: u77 :: u78 :: u79 :: u80 :: u81 :: u82 :: u83 :: u84 :: u85 :: u86 :: u87 :: u88 :: u89 :: u90 :: u91 :: u92 :: u93 :: u94 :: u95 :: u96 :: u97 :: u98 :: u99 :: u100 :: u101 :: u102 :: u103 :: u104 :: u105 :: u106 :: u107 :: u108 :: u109 :: u110 :: u111 :: u112 :: u113 :: u114 :: u115 :: u116 :: u117 :: u118 :: u119 :: u120 :: u121 :: u122 :: u123 :: u124 :: u125 :: u126 :: u127 :: u128 :: u129 :: u130 :: u131 :: u132 :: u133 :: u134 :: u135 :: u136 :: u137 :: u138 :: u139 :: u140 :: u141 :: u142 :: u143 :: u144 :: u145 :: u146 :: u147 :: u148 :: u149 :: u150 :: u151 :: u152 :: u153 :: u154 :: u155 :: u156 :: u157 :: u158 :: u159 :: u160 :: u161 :: u162 :: u163 :: u164 :: u165 :: u166 :: u167 :: u168 :: u169 :: u170 :: u171 :: u172 :: u173 :: u174 :: u175 :: u176 :: u177 :: u178 :: u179 :: u180 :: u181 :: u182 :: u183 :: u184 :: u185 :: u186 :: u187 :: u188 :: u189 :: u190 :: u191 :: u192 :: u193 :: []), []⟩ WX := by
  conv => arg 2; whnf
  obtain ⟨⟨ke, be, ne, se, le, fe⟩, hE⟩ : ∃ t, eqR 15 (.mk kp bp np sp lp fp) (.mk kq bq nq sq lq fq) = t := ⟨_, rfl⟩
  obtain ⟨⟨kd, bd, nd, sd, ld, fd⟩, hD⟩ : ∃ t, eqR 16 (.mk kp bp np sp lp fp) (.mk kq bq nq sq lq fq) = t := ⟨_, rfl⟩
  have hke : (ke == 0) = (kp == 0 || kq == 0) := by have h := eq_kind (p := .mk kp bp np sp lp fp) (q := .mk kq bq nq sq lq fq) 15; rw [hE] at h; exact h
  have HKE := Lib.hid hke
  have HLE : Hid (evalE (la ++ lb ++ [oP 15]) row = (.mk ke be ne se le fe, 0)) := Lib.hid (by rw [← hE]; exact logic_eq 15 (Or.inl rfl) HLP.out HLQ.out (by rw [HN.out, HM.out]; exact hlen))
  have HLU : Hid (evalE (la ++ lb ++ [oP 16]) row = (.mk kd bd nd sd ld fd, 0)) := Lib.hid (by rw [← hD]; exact logic_eq 16 (Or.inr rfl) HLP.out HLQ.out (by rw [HN.out, HM.out]; exact hlen))
  have HLN : Hid (evalE (la ++ lb ++ [oP 15] ++ [oP 10]) row = (.mk kd bd nd sd ld fd, 0)) := Lib.hid (by rw [← hD]; exact logic_noteq HLP.out HLQ.out (by rw [HN.out, HM.out]; exact hlen))
  clear hke hE hD
  refine logRun17 HLD HN HM hlen hpa hpb HSTA HSAB HBW HROW HRA HRAB HLE ?_
  intro g20 W20 u2 u3 u4 u6 u8 u10 u12 u13 u14 u15 u16 u17 u18 u19 u22 u23 u24 u25 u26 u27 u28 u29 u30 u31 u32 u33 u34 u35 u36 u37 u38 u39 u40 u41 u42 u43 u44 u45 u46 u47 u48 u49 u50 u51 u52 u53 u54 u55 u56 u57 u58 u59 u60 u61 u62 u63 u64 u65 u66 u67 u68 u69 u70 u71 u72 u73 u74 u75 u76 u77 u78 u79 u80 u81 u82 u83 u84 u85 u86 u87 u88 u89 u90 u91 u92 u93 u94 u95 u96 u97 u98 u99 u100 u101 u102 u103 u104 u105 u106 u107 u108 u109 u110 u111 u112 u113 u114 u115 u116 u117 u118 u119 u120 u121 u122 u123 u124 u125 u126 u127 u128 u129 u130 u131 u132 u133 u134 u135 u136 u137 u138 u139 u140 u141 u142 u143 u144 u145 u146 u147 u148 u149 u150 u151 u152 u153 u154 u155 u156 u157 u158 u159 u160 u161 u162 u163 u164 u165 u166 u167 u168 u169 u170 u171 u172 u173 u174 u175 u176 u177 u178 u179 u180 u181 u182 u183 u184 u185 u186 u187 u188 u189 u190 u191 u192 u193 hcd
  have k0 := HROW.out.keep hcd.1
  have k1 := HP.out.keep hcd.1
  have k2 := HQ.out.keep hcd.1
  have k3 := RowS.keep HRA.out hcd.1
  have k4 := RowS.keep HRAB.out hcd.1
  have k5 := below_call0 HBW.out HBW.out.size hcd.1
  have HXg20 := Lib.hid hcd.2
  clear hcd HROW HP HQ HRA HRAB HBW
  have HROW := Lib.hid k0
  have HP := Lib.hid k1
  have HQ := Lib.hid k2
  have HRA := Lib.hid k3
  have HRAB := Lib.hid k4
  have HBW := Lib.hid k5
  clear k0 k1 k2 k3 k4 k5
  refine hK _ _ ?_
  conv => arg 2; whnf
  go_upto_region 18 with (fail)
  refine logRun18 HLD HN HM hlen hpa hpb HSTA HSAB HBW HROW HRA HRAB HLU ?_
  intro g22 W22 u2 u3 u4 u6 u8 u10 u12 u13 u14 u15 u16 u17 u18 u19 u24 u25 u26 u27 u28 u29 u30 u31 u32 u33 u34 u35 u36 u37 u38 u39 u40 u41 u42 u43 u44 u45 u46 u47 u48 u49 u50 u51 u52 u53 u54 u55 u56 u57 u58 u59 u60 u61 u62 u63 u64 u65 u66 u67 u68 u69 u70 u71 u72 u73 u74 u75 u76 u77 u78 u79 u80 u81 u82 u83 u84 u85 u86 u87 u88 u89 u90 u91 u92 u93 u94 u95 u96 u97 u98 u99 u100 u101 u102 u103 u104 u105 u106 u107 u108 u109 u110 u111 u112 u113 u114 u115 u116 u117 u118 u119 u120 u121 u122 u123 u124 u125 u126 u127 u128 u129 u130 u131 u132 u133 u134 u135 u136 u137 u138 u139 u140 u141 u142 u143 u144 u145 u146 u147 u148 u149 u150 u151 u152 u153 u154 u155 u156 u157 u158 u159 u160 u161 u162 u163 u164 u165 u166 u167 u168 u169 u170 u171 u172 u173 u174 u175 u176 u177 u178 u179 u180 u181 u182 u183 u184 u185 u186 u187 u188 u189 u190 u191 u192 u193 hcd
  have k0 := HROW.out.keep hcd.1
  have k1 := HP.out.keep hcd.1
  have k2 := HQ.out.keep hcd.1
  have k3 := RowS.keep HRA.out hcd.1
  have k4 := RowS.keep HRAB.out hcd.1
  have k5 := below_call0 HBW.out HBW.out.size hcd.1
  have k6 := HXg20.out.keep hcd.1
  have HXg22 := Lib.hid hcd.2
  clear hcd HROW HP HQ HRA HRAB HBW HXg20
  have HROW := Lib.hid k0
  have HP := Lib.hid k1
  have HQ := Lib.hid k2
  have HRA := Lib.hid k3
  have HRAB := Lib.hid k4
  have HBW := Lib.hid k5
  have HXg20 := Lib.hid k6
  clear k0 k1 k2 k3 k4 k5 k6
  go_upto_region 19 with (fail)
  refine logRun19 HLD HN HM hlen hpa hpb HSTA HSAB HBW HROW HRA HRAB HLN ?_
  intro g24 W24 u2 u3 u4 u6 u8 u10 u12 u13 u14 u15 u16 u17 u18 u19 u26 u27 u28 u29 u30 u31 u32 u33 u34 u35 u36 u37 u38 u39 u40 u41 u42 u43 u44 u45 u46 u47 u48 u49 u50 u51 u52 u53 u54 u55 u56 u57 u58 u59 u60 u61 u62 u63 u64 u65 u66 u67 u68 u69 u70 u71 u72 u73 u74 u75 u76 u77 u78 u79 u80 u81 u82 u83 u84 u85 u86 u87 u88 u89 u90 u91 u92 u93 u94 u95 u96 u97 u98 u99 u100 u101 u102 u103 u104 u105 u106 u107 u108 u109 u110 u111 u112 u113 u114 u115 u116 u117 u118 u119 u120 u121 u122 u123 u124 u125 u126 u127 u128 u129 u130 u131 u132 u133 u134 u135 u136 u137 u138 u139 u140 u141 u142 u143 u144 u145 u146 u147 u148 u149 u150 u151 u152 u153 u154 u155 u156 u157 u158 u159 u160 u161 u162 u163 u164 u165 u166 u167 u168 u169 u170 u171 u172 u173 u174 u175 u176 u177 u178 u179 u180 u181 u182 u183 u184 u185 u186 u187 u188 u189 u190 u191 u192 u193 hcd
  have k0 := HROW.out.keep hcd.1
  have k1 := HP.out.keep hcd.1
  have k2 := HQ.out.keep hcd.1
  have k3 := RowS.keep HRA.out hcd.1
  have k4 := RowS.keep HRAB.out hcd.1
  have k5 := below_call0 HBW.out HBW.out.size hcd.1
  have k6 := HXg20.out.keep hcd.1
  have k7 := HXg22.out.keep hcd.1
  have HXg24 := Lib.hid hcd.2
  clear hcd HROW HP HQ HRA HRAB HBW HXg20 HXg22
  have HROW := Lib.hid k0
  have HP := Lib.hid k1
  have HQ := Lib.hid k2
  have HRA := Lib.hid k3
  have HRAB := Lib.hid k4
  have HBW := Lib.hid k5
  have HXg20 := Lib.hid k6
  have HXg22 := Lib.hid k7
  clear k0 k1 k2 k3 k4 k5 k6 k7
  obtain ⟨a20, e20, b20, f20, hz20, hv20⟩ := HXg20.out.cells
  obtain ⟨a22, e22, b22, f22, hz22, hv22⟩ := HXg22.out.cells
  obtain ⟨a24, e24, b24, f24, hz24, hv24⟩ := HXg24.out.cells
  have hz7 := HP.out.1
  have hz9 := HQ.out.1
  have hs0 := Same_any (.mk kd bd nd sd ld fd) (.mk kd bd nd sd ld fd) W24 _ _ W24.heap.size (RV.keep (Same.of_below (Below.refl _ _)) (Nat.zero_le _) (Nat.le_refl _) _ _ hv22) (RV.keep (Same.of_below (Below.refl _ _)) (Nat.zero_le _) (Nat.le_refl _) _ _ hv24) (Nat.le_refl _)
  rw [show sameV (.mk kd bd nd sd ld fd) (.mk kd bd nd sd ld fd) = true from sameV_refl' _] at hs0
  have HS0 := Lib.hid hs0
  have hke := HKE.out
  have HZ20 := Lib.hid hz20
  have HZ22 := Lib.hid hz22
  have HZ24 := Lib.hid hz24
  have HZ7 := Lib.hid hz7
  have HZ9 := Lib.hid hz9
  obtain ⟨x0, x1, x2, x3, x4, x5, x6⟩ := cells6 hz22
  obtain ⟨y0, y1, y2, y3, y4, y5, y6⟩ := cells6 hz24
  clear hs0 hv20 hv22 hv24 HKE HROW HP HQ HRA HRAB HXg20 HXg22 HXg24 hz20 hz22 hz24 hz7 hz9
  have fin : ∀ (qa qb : Bool), (kp == 0) = qa → (kq == 0) = qb → (ke == 0) = (qa || qb) := fun qa qb h1 h2 => by rw [← h1, ← h2]; exact hke
  clear hke
  cases qp : (kp == 0) with
  | true =>
    have qe : (ke == 0) = true := by have h := fin true (kq == 0) qp rfl; simpa using h
    clear fin
    go_wp2_with (go_at_call 11; (with_reducible refine (HS0.out).mono ?_); rintro e w9 ⟨rfl, hb9⟩; have HB9 := Lib.hid (below_call0 HBW.out HBW.out.size hb9); have hq20 := blk hb9 HZ20.out; have hq7 := blk hb9 HZ7.out; have hq9 := blk hb9 HZ9.out; clear hb9 x0 x1 x2 x3 x4 x5 x6 y0 y1 y2 y3 y4 y5 y6; obtain ⟨x0, x1, x2, x3, x4, x5, x6⟩ := cells6 hq20; obtain ⟨y0, y1, y2, y3, y4, y5, y6⟩ := cells6 hq7; obtain ⟨z0, z1, z2, z3, z4, z5, z6⟩ := cells6 hq9; clear hq20 hq7 hq9)
    go_ret
    exact ⟨rfl, HB9.out⟩
  | false =>
    cases qq : (kq == 0) with
    | true =>
      have qe : (ke == 0) = true := fin false true qp qq
      clear fin
      go_wp2_with (go_at_call 11; (with_reducible refine (HS0.out).mono ?_); rintro e w9 ⟨rfl, hb9⟩; have HB9 := Lib.hid (below_call0 HBW.out HBW.out.size hb9); have hq20 := blk hb9 HZ20.out; have hq7 := blk hb9 HZ7.out; have hq9 := blk hb9 HZ9.out; clear hb9 x0 x1 x2 x3 x4 x5 x6 y0 y1 y2 y3 y4 y5 y6; obtain ⟨x0, x1, x2, x3, x4, x5, x6⟩ := cells6 hq20; obtain ⟨y0, y1, y2, y3, y4, y5, y6⟩ := cells6 hq7; obtain ⟨z0, z1, z2, z3, z4, z5, z6⟩ := cells6 hq9; clear hq20 hq7 hq9)
      go_ret
      exact ⟨rfl, HB9.out⟩
    | false =>
      have qe : (ke == 0) = false := fin false false qp qq
      clear fin
      go_wp2_with (go_at_call 11; (with_reducible refine (HS0.out).mono ?_); rintro e w9 ⟨rfl, hb9⟩; have HB9 := Lib.hid (below_call0 HBW.out HBW.out.size hb9); have hq20 := blk hb9 HZ20.out; have hq7 := blk hb9 HZ7.out; have hq9 := blk hb9 HZ9.out; clear hb9 x0 x1 x2 x3 x4 x5 x6 y0 y1 y2 y3 y4 y5 y6; obtain ⟨x0, x1, x2, x3, x4, x5, x6⟩ := cells6 hq20; obtain ⟨y0, y1, y2, y3, y4, y5, y6⟩ := cells6 hq7; obtain ⟨z0, z1, z2, z3, z4, z5, z6⟩ := cells6 hq9; clear hq20 hq7 hq9)
      go_ret
      exact ⟨rfl, HB9.out⟩
end Go.Proofs.YtbemgcjckchdjaaGreatDoor
