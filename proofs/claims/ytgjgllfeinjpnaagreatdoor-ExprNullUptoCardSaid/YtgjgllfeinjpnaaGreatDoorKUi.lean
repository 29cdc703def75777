import Derived.Test.YtgjgllfeinjpnaaGreatDoorKUe
import Derived.Test.YtgjgllfeinjpnaaGreatDoorKUf
import Derived.Test.YtgjgllfeinjpnaaGreatDoorKUg
/- codicillaw11.ExprNull: where it returns early; the whole. -/
namespace Go.Proofs.YtgjgllfeinjpnaaGreatDoor
open Go.RowKit
set_option linter.unusedSimpArgs false
set_option linter.unusedVariables false
set_option maxHeartbeats 4000000
set_option maxRecDepth 100000
theorem nullE_calls (l : List ST) (A0 : Option Addr) (c0 : Nat) (row : VT) (r0 r1 r2 r3 r4 r5 : Value) (k : Int) (w : World) (hL : Laid w) (hlen : l.length ≤ LIM) (hst : ∀ s ∈ l, StOk s) (hrow : RowS w l A0) (hr : RV w 0 w.heap.size row [r0, r1, r2, r3, r4, r5])
    (kv : Int) (bv : Bool) (nv : Int) (sv : ByteArray) (lv : VL) (fv : FL) (ev : Int) (he : evalE l row = (.mk kv bv nv sv lv fv, ev)) (hq : ev ≠ 0 ∨ 128 < l.length + 2 ∨ k < 12 ∨ 22 < k) :
    Calls Tryz.prog 5 #[.slice A0 l.length c0, .agg #[r0, r1, r2, r3, r4, r5], .int .u8 k] w fun e w' => e = .returned (.bool true) ∧ Below w.heap.size w w' := by
  have hr0 := hr
  obtain ⟨kr, br, nr, sr, lr, fr, ar1, cr1, ar2, cr2, hre, er, hjx⟩ := RV.mk_parts hr
  simp only [List.cons.injEq, and_true] at er
  obtain ⟨rfl, rfl, rfl, rfl, rfl, rfl⟩ := er
  clear hjx hr hre
  have hb0 := below_new (w := w) (.cells #[.int .u8 kr, .bool br, .int .i64 nr, .string sr, .slice ar1 lr.len cr1, .slice ar2 fr.len cr2] 26)
  have hrb : RowBox w.heap.size row (w.alloc (.cells #[.int .u8 kr, .bool br, .int .i64 nr, .string sr, .slice ar1 lr.len cr1, .slice ar2 fr.len cr2] 26)) (.int .u8 kr) (.bool br) (.int .i64 nr) (.string sr) (.slice ar1 lr.len cr1) (.slice ar2 fr.len cr2) := ⟨heap_last _ _, hr0.grow hb0⟩
  have HLV := Lib.hid (lives_calls _ (hL.below hb0))
  have HB0 := Lib.hid hb0
  have HRB0 := Lib.hid hrb
  have HEV1 := Lib.hid (fun (w' : World) (hb : Below w.heap.size w w') => evalM_calls l A0 c0 row _ _ _ _ _ _ w' hlen hst (hL.below hb) (RowS.keep hrow hb) (hr0.grow hb))
  rw [he] at HEV1
  have hlim : l.length ≤ 1048576 := hlen
  obtain ⟨n, hn⟩ : ∃ n, l.length = n := ⟨_, rfl⟩
  rw [hn] at hlim hq HEV1 ⊢
  have hw2 : wrap64 ((n : Int) + 2) = (n : Int) + 2 := IntWalk.wrap64_in _ (by omega)
  have hw3 : IntKind.i64.wrap ((n : Int) + 2) = (n : Int) + 2 := IntWalk.i64_in _ (by omega)
  clear hb0 hrb hL hst hrow hr0 hlen hn he
  go_enter Tryz.func5, Tryz.ntmps5
  go_upto_region 3 with (go_at_call 9; (with_reducible refine (HLV.out).mono ?_); rintro e w1 ⟨rfl, hb1⟩; have HB1 := Lib.hid (below_call0 HB0.out HB0.out.size hb1); have HRB1 := Lib.hid (HRB0.out.keep hb1); clear hb1)
  clear HLV HB0 HRB0
  obtain ⟨y0, y1, y2, y3, y4, y5, y6⟩ := cells6 HRB1.out.1
  go_upto_region 4 with (go_at_call 13; (with_reducible refine (HEV1.out _ HB1.out).mono ?_); intro e w8 hev; obtain ⟨hb8, a1, c1, a2, c2, rfl, hv8⟩ := hev.parts; have HB8 := Lib.hid hb8; clear hev hb8 hv8)
  have HBE := Lib.hid (below_call0 (below_call0 HB1.out HB1.out.size HB8.out) (below_call0 HB1.out HB1.out.size HB8.out).size (below_new (w := w8) (.cells #[.int .u8 kv, .bool bv, .int .i64 nv, .string sv, .slice a1 lv.len c1, .slice a2 fv.len c2] 26)))
  generalize w8.alloc (.cells #[.int .u8 kv, .bool bv, .int .i64 nv, .string sv, .slice a1 lv.len c1, .slice a2 fv.len c2] 26) = W9 at *
  clear HB8 HB1 HRB1 HEV1 y0 y1 y2 y3 y4 y5 y6
  by_cases h0 : ev = 0
  case neg =>
    have q0 : (ev != 0) = true := by simpa using h0
    clear h0 hq
    go_wp2_with fail
    go_ret
    exact ⟨rfl, HBE.out⟩
  subst h0
  by_cases h1 : 128 < n + 2
  · have d1 : decide ((128 : Int) < (n : Int) + 2) = true := decide_eq_true (by omega)
    clear hq h1
    go_wp2_with fail
    go_ret
    exact ⟨rfl, HBE.out⟩
  have d1 : decide ((128 : Int) < (n : Int) + 2) = false := decide_eq_false (by omega)
  by_cases h2 : k < 12
  · have d2 : decide (k < 12) = true := decide_eq_true h2
    clear hq h1 h2
    go_wp2_with fail
    go_ret
    exact ⟨rfl, HBE.out⟩
  have d2 : decide (k < 12) = false := decide_eq_false h2
  have d3 : decide (23 ≤ k) = true := decide_eq_true (by omega)
  clear hq h1 h2
  go_wp2_with fail
  go_ret
  exact ⟨rfl, HBE.out⟩
theorem null_calls (l : List ST) (A0 : Option Addr) (c0 : Nat) (row : VT) (r0 r1 r2 r3 r4 r5 : Value) (k : Int) (w : World) (hL : Laid w) (hlen : l.length ≤ LIM) (hst : ∀ s ∈ l, StOk s) (hrow : RowS w l A0) (hr : RV w 0 w.heap.size row [r0, r1, r2, r3, r4, r5]) :
    Calls Tryz.prog 5 #[.slice A0 l.length c0, .agg #[r0, r1, r2, r3, r4, r5], .int .u8 k] w fun e w' => e = .returned (.bool true) ∧ Below w.heap.size w w' := by
  obtain ⟨⟨⟨kv, bv, nv, sv, lv, fv⟩, ev⟩, he⟩ : ∃ r, evalE l row = r := ⟨_, rfl⟩
  by_cases hq : ev ≠ 0 ∨ 128 < l.length + 2 ∨ k < 12 ∨ 22 < k
  · exact nullE_calls l A0 c0 row r0 r1 r2 r3 r4 r5 k w hL hlen hst hrow hr kv bv nv sv lv fv ev he hq
  · obtain rfl : ev = 0 := by omega
    by_cases h20 : k ≤ 20
    · exact nullA_calls l A0 c0 row r0 r1 r2 r3 r4 r5 k w hL (by omega) hst hrow hr kv bv nv sv lv fv he (by omega)
    · by_cases hv : 1 < kv
      · exact nullB_calls l A0 c0 row r0 r1 r2 r3 r4 r5 k w hL (by omega) hst hrow hr kv bv nv sv lv fv he (by omega) hv
      · exact nullC_calls l A0 c0 row r0 r1 r2 r3 r4 r5 k w hL (by omega) hst hrow hr kv bv nv sv lv fv he (by omega) hv
end Go.Proofs.YtgjgllfeinjpnaaGreatDoor
