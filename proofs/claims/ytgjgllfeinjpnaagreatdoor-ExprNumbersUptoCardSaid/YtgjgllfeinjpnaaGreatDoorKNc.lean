import Derived.Test.YtgjgllfeinjpnaaGreatDoorKNa
import Derived.Test.YtgjgllfeinjpnaaGreatDoorKOa
/- codicillaw11.ExprNumbers: regions 14, 15 (printed by gennum.py). -/
namespace Go.Proofs.YtgjgllfeinjpnaaGreatDoor
open Go.RowKit
set_option linter.unusedSimpArgs false
set_option linter.unusedVariables false
set_option maxHeartbeats 4000000
set_option maxRecDepth 100000
/-- region k of a code -/
def regOf (k : Nat) : Code → Option Code
  | .region id ops d => if id = k then some (.region id ops d) else none
  | .seq a b => match regOf k a with
    | some c => some c
    | none => regOf k b
  | .cond _ a b => match regOf k a with
    | some c => some c
    | none => regOf k b
  | .scope c => regOf k c
  | .block _ c => regOf k c
  | .loop c => regOf k c
  | _ => none
/-- what follows region k, a statement of its own -/
def restOf (k : Nat) : Code → Option Code
  | .seq (.region id _ _) b => if id = k then some b else restOf k b
  | .seq a b => match restOf k b with
    | some c => some c
    | none => restOf k a
  | .scope c => restOf k c
  | .block _ c => restOf k c
  | .loop c => restOf k c
  | _ => none
noncomputable def numReg14 : Code := ((Tryz.f6.body.bind (regOf 14)).getD .skip)
noncomputable def numRest14 : Code := ((Tryz.f6.body.bind (restOf 14)).getD .skip)
theorem numTail14 {a b : Int} {w : World} {W15 : World} {n13 n15 g13 g15 : Nat} {k4 : Int} {b4 : Bool} {n4 : Int} {s4 : ByteArray} {l4 : VL} {f4 : FL} {e4 : Int} {u2 u3 u4 u5 u6 u7 u8 u9 u10 u11 u12 u17 u18 u19 u20 u21 u22 u23 u24 u25 u26 u27 u28 u29 u30 u31 u32 u33 u34 u35 u36 u37 u38 u39 u40 u41 u42 u43 u44 u45 u46 u47 u48 u49 u50 u51 u52 u53 u54 u55 u56 u57 u58 u59 u60 u61 u62 u63 u64 u65 u66 u67 u68 u69 u70 u71 u72 u73 u74 u75 u76 u77 u78 u79 u80 u81 u82 u83 u84 u85 u86 u87 u88 u89 u90 u91 u92 u93 u94 u95 u96 u97 u98 u99 u100 u101 u102 u103 u104 u105 u106 u107 u108 u109 u110 u111 u112 u113 u114 u115 u116 u117 u118 u119 u120 u121 u122 u123 u124 u125 u126 u127 u128 u129 u130 u131 u132 u133 u134 u135 u136 u137 u138 u139 u140 u141 u142 u143 u144 u145 u146 u147 u148 u149 u150 u151 u152 u153 u154 u155 u156 u157 u158 u159 u160 u161 u162 u163 u164 u165 u166 u167 u168 u169 u170 u171 u172 u173 u174 u175 u176 u177 u178 u179 u180 u181 u182 : Value} {K : Act → World → Prop} (HIA : Hid (I64 a)) (HBW : Hid (Below w.heap.size w W15)) (HX13 : Hid (BoxT n13 W15 g13 (.mk k4 b4 n4 s4 l4 f4))) (HX15 : Hid (BoxT n15 W15 g15 (.mk k4 b4 n4 s4 l4 f4))) (HR4 : Hid (numRz 14 a b = (.mk k4 b4 n4 s4 l4 f4, e4))) (hK : ∀ a' w', Code.wp Tryz.prog numRest14 (bodyPost Tryz.prog Tryz.f6 fun e w' => e = .returned (.bool true) ∧ Below w.heap.size w w') a' w' → K a' w') :
    Code.wp Tryz.prog numReg14 (Exit.then K (bodyPost Tryz.prog Tryz.f6 fun e w' => e = .returned (.bool true) ∧ Below w.heap.size w w')) ⟨List.toArray (.int .i64 a :: .int .i64 b :: u2 :: u3 :: u4 :: u5 :: u6 :: u7 :: u8 :: u9 :: u10 :: u11 :: u12 :: .pointer (some ⟨g13, 0, none⟩) :: .int .i64 e4 :: .pointer (some ⟨g15, 0, none⟩) :: .int .i64 e4 :: u17 :: u18 :: u19 :: u20 :: u21 :: u22 :: u23 :: u24 :: u25 :: u26 :: u27 :: u28 :: u29 :: u30 :: u31 :: u32 :: u33 :: u34 :: u35 :: u36 :: u37 :: u38 :: u39 :: u40 :: u41 :: u42 :: u43 :: u44 :: u45 :: u46 :: u47 :: u48 :: u49 :: u50 :: u51 :: u52 :: u53 :: u54 :: u55 :: u56 :: u57 :: u58 :: u59 :: u60 :: u61 :: u62 :: u63 :: u64 :: u65 :: u66 :: u67 :: u68 :: u69 :: u70 :: u71 :: u72 :: u73 :: u74 :: u75 :: u76 :: u77 :: u78 :: u79 :: u80 :: u81 :: u82 :: u83 :: u84 :: u85 :: u86 :: u87 :: u88 :: u89 :: u90 :: u91 :: u92 :: u93 :: u94 :: u95 :: u96 :: u97 :: u98 :: u99 :: u100 :: u101 :: u102 :: u103 :: u104 :: u105 :: u106 :: u107 :: u108 :: u109 :: u110 :: u111 :: u112 :: u113 :: u114 :: u115 :: u116 :: u117 :: u118 :: u119 :: u120 :: u121 :: u122 :: u123 :: u124 :: u125 :: u126 :: u127 :: u128 :: u129 :: u130 :: u131 :: u132 :: u133 :: u134 :: u135 :: u136 :: u137 :: u138 :: u139 :: u140 :: u141 :: u142 :: u143 :: u144 :: u145 :: u146 :: u147 :: u148 :: u149 :: u150 :: u151 :: u152 :: u153 :: u154 :: u155 :: u156 :: u157 :: u158 :: u159 :: u160 :: u161 :: u162 :: u163 :: u164 :: u165 :: u166 :: u167 :: u168 :: u169 :: u170 :: u171 :: u172 :: u173 :: u174 :: u175 :: u176 :: u177 :: u178 :: u179 :: u180 :: u181 :: u182 :: []), []⟩ W15 := by
  conv => arg 2; whnf
  have HSF := Lib.hid (small_fits a b)
  go_cut [17] (fun c wx => ∃ z, c = .bool z ∧ (z = true → fitsB (a * b) = true) ∧ wx = W15)
  case first =>
    clear HR4 HX13 HX15 HBW
    by_cases c0 : a < 2147483648
    case neg =>
      have d0 : decide (a < 2147483648) = false := decide_eq_false c0
      clear c0
      go_wp2_with fail
      go_meet
      exact ⟨false, rfl, (fun h => absurd h (by decide)), rfl⟩
    have d0 : decide (a < 2147483648) = true := decide_eq_true c0
    by_cases c1 : -2147483648 < a
    case neg =>
      have d1 : decide (-2147483648 < a) = false := decide_eq_false c1
      clear c0 c1
      go_wp2_with fail
      go_meet
      exact ⟨false, rfl, (fun h => absurd h (by decide)), rfl⟩
    have d1 : decide (-2147483648 < a) = true := decide_eq_true c1
    by_cases c2 : b < 2147483648
    case neg =>
      have d2 : decide (b < 2147483648) = false := decide_eq_false c2
      clear c0 c1 c2
      go_wp2_with fail
      go_meet
      exact ⟨false, rfl, (fun h => absurd h (by decide)), rfl⟩
    have d2 : decide (b < 2147483648) = true := decide_eq_true c2
    by_cases c3 : -2147483648 < b
    case neg =>
      have d3 : decide (-2147483648 < b) = false := decide_eq_false c3
      clear c0 c1 c2 c3
      go_wp2_with fail
      go_meet
      exact ⟨false, rfl, (fun h => absurd h (by decide)), rfl⟩
    have d3 : decide (-2147483648 < b) = true := decide_eq_true c3
    have HE := Lib.hid (HSF.out c0 c1 c2 c3)
    clear c0 c1 c2 c3
    go_wp2_with fail
    go_meet
    exact ⟨true, rfl, fun _ => HE.out, rfl⟩
  case rest =>
    obtain ⟨F2, rfl, hF2, hwc⟩ := hcut
    rw [hwc]
    clear hwc
    refine hK _ _ ?_
    conv => arg 2; whnf
    have HF2 := Lib.hid hF2
    clear hF2
    obtain ⟨a13, c13, d13, e13, hz13, hv13⟩ := HX13.out.cells
    obtain ⟨a15, c15, d15, e15, hz15, hv15⟩ := HX15.out.cells
    have HS0 := Same_any _ _ W15 _ _ W15.heap.size (RV.keep (Same.of_below (Below.refl _ _)) (Nat.zero_le _) (Nat.le_refl _) _ _ hv13) (RV.keep (Same.of_below (Below.refl _ _)) (Nat.zero_le _) (Nat.le_refl _) _ _ hv15) (Nat.le_refl _)
    clear hv13 hv15 HX13 HX15
    have h4 := HR4.out
    clear HR4
    by_cases hf : fitsB (a * b) = true
    · rw [num_mul hf] at h4
      cases h4
      rw [same_int] at HS0
      have HS := Lib.hid HS0
      have hw := fits_wrap hf
      have hw2 := fits_wrap64 hf
      have ha2 := wrap64_of (IntWalk.i64_in a HIA.out)
      have ha := IntWalk.i64_in a HIA.out
      clear HS0
      by_cases hb0 : b = 0
      · have d0 : (b == 0) = true := by simp [hb0]
        clear hb0 hf HF2 ha
        cases F2
        · skip
          have HP := Lib.hid hz13
          obtain ⟨p0, p1, p2, p3, p4, p5, p6⟩ := cells6 hz13
          obtain ⟨q0, q1, q2, q3, q4, q5, q6⟩ := cells6 hz15
          clear hz13 hz15
          go_wp2_with (go_at_call 15; (with_reducible refine (HS.out).mono ?_); rintro e w3 ⟨rfl, hb3⟩; have HB3 := Lib.hid (below_call0 HBW.out HBW.out.size hb3); have hp := blk hb3 HP.out; clear hb3 p0 p1 p2 p3 p4 p5 p6 q0 q1 q2 q3 q4 q5 q6; obtain ⟨p0, p1, p2, p3, p4, p5, p6⟩ := cells6 hp; clear hp)
          go_ret
          exact ⟨rfl, HB3.out⟩
        · skip
          have HP := Lib.hid hz13
          obtain ⟨p0, p1, p2, p3, p4, p5, p6⟩ := cells6 hz13
          obtain ⟨q0, q1, q2, q3, q4, q5, q6⟩ := cells6 hz15
          clear hz13 hz15
          go_wp2_with (go_at_call 15; (with_reducible refine (HS.out).mono ?_); rintro e w3 ⟨rfl, hb3⟩; have HB3 := Lib.hid (below_call0 HBW.out HBW.out.size hb3); have hp := blk hb3 HP.out; clear hb3 p0 p1 p2 p3 p4 p5 p6 q0 q1 q2 q3 q4 q5 q6; obtain ⟨p0, p1, p2, p3, p4, p5, p6⟩ := cells6 hp; clear hp)
          go_ret
          exact ⟨rfl, HB3.out⟩
      · have d0 : (b == 0) = false := by simpa using hb0
        have hq : Int.tdiv (a * b) b = a := quo_law a b hb0
        clear hf HF2
        cases F2
        · skip
          have HP := Lib.hid hz13
          obtain ⟨p0, p1, p2, p3, p4, p5, p6⟩ := cells6 hz13
          obtain ⟨q0, q1, q2, q3, q4, q5, q6⟩ := cells6 hz15
          clear hz13 hz15
          go_wp2_with (go_at_call 15; (with_reducible refine (HS.out).mono ?_); rintro e w3 ⟨rfl, hb3⟩; have HB3 := Lib.hid (below_call0 HBW.out HBW.out.size hb3); have hp := blk hb3 HP.out; clear hb3 p0 p1 p2 p3 p4 p5 p6 q0 q1 q2 q3 q4 q5 q6; obtain ⟨p0, p1, p2, p3, p4, p5, p6⟩ := cells6 hp; clear hp)
          go_ret
          exact ⟨rfl, HB3.out⟩
        · skip
          have HP := Lib.hid hz13
          obtain ⟨p0, p1, p2, p3, p4, p5, p6⟩ := cells6 hz13
          obtain ⟨q0, q1, q2, q3, q4, q5, q6⟩ := cells6 hz15
          clear hz13 hz15
          go_wp2_with (go_at_call 15; (with_reducible refine (HS.out).mono ?_); rintro e w3 ⟨rfl, hb3⟩; have HB3 := Lib.hid (below_call0 HBW.out HBW.out.size hb3); have hp := blk hb3 HP.out; clear hb3 p0 p1 p2 p3 p4 p5 p6 q0 q1 q2 q3 q4 q5 q6; obtain ⟨p0, p1, p2, p3, p4, p5, p6⟩ := cells6 hp; clear hp)
          go_ret
          exact ⟨rfl, HB3.out⟩
    · rw [num_mul_no hf] at h4
      cases h4
      rw [same_null] at HS0
      have HS := Lib.hid HS0
      have hF : F2 = false := by cases F2 with | false => rfl | true => exact absurd (HF2.out rfl) hf
      subst hF
      clear HS0 hf HF2
      have HP := Lib.hid hz13
      obtain ⟨p0, p1, p2, p3, p4, p5, p6⟩ := cells6 hz13
      obtain ⟨q0, q1, q2, q3, q4, q5, q6⟩ := cells6 hz15
      clear hz13 hz15
      go_wp2_with (go_at_call 15; (with_reducible refine (HS.out).mono ?_); rintro e w3 ⟨rfl, hb3⟩; have HB3 := Lib.hid (below_call0 HBW.out HBW.out.size hb3); have hp := blk hb3 HP.out; clear hb3 p0 p1 p2 p3 p4 p5 p6 q0 q1 q2 q3 q4 q5 q6; obtain ⟨p0, p1, p2, p3, p4, p5, p6⟩ := cells6 hp; clear hp)
      go_ret
      exact ⟨rfl, HB3.out⟩
end Go.Proofs.YtgjgllfeinjpnaaGreatDoor
