import Derived.Test.YtbemgcjckchdjaaGreatDoorLGm
import Derived.Test.YtbemgcjckchdjaaGreatDoorLCm
import Derived.Test.YtbemgcjckchdjaaGreatDoorLUa
/- codicillaw14.VmShort: the walk (printed by genshort.py). -/
namespace Go.Proofs.YtbemgcjckchdjaaGreatDoor
open Go.RowKit
set_option linter.unusedSimpArgs false
set_option linter.unusedVariables false
set_option maxHeartbeats 4000000
set_option maxRecDepth 100000
theorem Qa {w : World} {l : List ST} {B g n cap : Nat} (h : w.ownsRow B 43 3 (.slice (some ⟨g, 0, none⟩) (1 + n + 1) cap) (1 + n + 1) ([.int .u8 3, .string ⟨#[]⟩, .int .i64 0] ++ Bi l ++ [.int .u8 21, .string ⟨#[]⟩, .int .i64 0])) (hn : l.length = n) : RowS w (KX l) (some ⟨g, 0, none⟩) := by
 refine Ln (B := B) (c := cap) ?_
 rw [show (KX l).length = 1 + n + 1 by simp [hn]; try omega, Fc]
 exact h
section
variable (l : List ST) (A0 : Option Addr) (c0 : Nat) (row : VT) (r0 r1 r2 r3 r4 r5 : Value) (w : World) (hL : Laid w) (hlen : l.length ≤ LIM) (hst : ∀ s ∈ l, Be s) (hrow : RowS w l A0) (hr : RV w 0 w.heap.size row [r0, r1, r2, r3, r4, r5])
include hL hlen hst hrow hr
theorem Hc (hq : Av l = false ∨ (Av l = true ∧ (128 < l.length + 2 ∨ 256 < 2 * (AB l).1.length + 4))) : Calls Tryz.prog 4 #[.slice A0 l.length c0, .agg #[r0, r1, r2, r3, r4, r5]] w fun e w' => e = .returned (.bool true) ∧ Below w.heap.size w w' := by
 have hcp := fun (w' : World) (hb : Below w.heap.size w w') => Ce l A0 c0 w' hlen hst (hL.below hb) (hrow.keep hb)
 unfold C0 at hcp
 obtain ⟨p, y, hce, hpl, hyq⟩ : ∃ p y, AB l = (p, y) ∧ p.length ≤ 256 ∧ ((y != 0) = true ∨ ((y != 0) = false ∧ decide (128 < (l.length : Int) + 2) = true) ∨ ((y != 0) = false ∧ decide (128 < (l.length : Int) + 2) = false ∧ decide (256 < 2 * (p.length : Int) + 4) = true)) := by
  rcases hq with hq | ⟨hq, hq2⟩
  · exact ⟨[], 13, by unfold AB; rw [hq]; rfl, by simp, Or.inl rfl⟩
  · obtain ⟨P, hce, _, _, _, hp2, _⟩ := Ed hq
    refine ⟨P, 0, hce, hp2, Or.inr ?_⟩
    by_cases h1 : 128 < l.length + 2
    · exact Or.inl ⟨rfl, decide_eq_true (by omega)⟩
    · rw [hce] at hq2
      exact Or.inr ⟨rfl, decide_eq_false (by omega), decide_eq_true (by rcases hq2 with h | h; exact absurd h h1; dsimp only at h; omega)⟩
 rw [hce] at hcp
 dsimp only at hcp
 have hll : l.length ≤ 140737488355328 := by unfold LIM at hlen; omega
 have hw1 : IntKind.i64.wrap ((l.length : Int) + 2) = (l.length : Int) + 2 := IntWalk.i64_in _ (by omega)
 have hw2 : IntKind.i64.wrap (2 * (p.length : Int)) = 2 * (p.length : Int) := IntWalk.i64_in _ (by omega)
 have hw3 : IntKind.i64.wrap (2 * (p.length : Int) + 4) = 2 * (p.length : Int) + 4 := IntWalk.i64_in _ (by omega)
 clear hce hq hll
 have hr0 := hr
 obtain ⟨kr, br, nr, sr, lr, fr, ar1, cr1, ar2, cr2, hre, er, hjx⟩ := RV.mk_parts hr
 simp only [List.cons.injEq, and_true] at er
 obtain ⟨rfl, rfl, rfl, rfl, rfl, rfl⟩ := er
 have hb0 := Ad (w := w) (.cells #[.int .u8 kr, .bool br, .int .i64 nr, .string sr, .slice ar1 lr.len cr1, .slice ar2 fr.len cr2] 27)
 have hxb := Ct (w := w.alloc (.cells #[.int .u8 kr, .bool br, .int .i64 nr, .string sr, .slice ar1 lr.len cr1, .slice ar2 fr.len cr2] 27)) rfl hr0
 have HLV := Lib.hid (Ca _ (hL.below hb0))
 have HB0 := Lib.hid hb0
 have HX0 := Lib.hid hxb
 clear hb0 hxb hjx hre
 have HCP := Lib.hid hcp
 clear hcp hL hst hrow hr hr0 hlen
 generalize l.length = n at *
 generalize p.length = m at *
 go_enter Tryz.func4, Tryz.ntmps4
 rcases hyq with q1 | ⟨q1, q2⟩ | ⟨q1, q2, q3⟩
 all_goals
  go_wp2_with (first | (go_at_call 13; (with_reducible refine (HLV.out).mono ?_); rintro e w1 ⟨rfl, hb1⟩; have HB1 := Lib.hid (Aa HB0.out HB0.out.size hb1); have HX1 := Lib.hid (HX0.out.keep hb1); clear hb1) | (go_at_call 14; (with_reducible refine (HCP.out _ HB1.out).mono ?_); rintro e w2 ⟨A2, c2, rfl, _, hp2, hb2⟩; have HB2 := Lib.hid (Aa HB1.out HB1.out.size hb2); have HX2 := Lib.hid (HX1.out.keep hb2); have HP2 := Lib.hid hp2; clear hb2 hp2))
  go_ret
  exact ⟨rfl, HB2.out⟩
theorem Nj (hri : Av l = true) (h128 : l.length + 2 ≤ 128) (h256 : 2 * (AB l).1.length + 4 ≤ 256) : Calls Tryz.prog 4 #[.slice A0 l.length c0, .agg #[r0, r1, r2, r3, r4, r5]] w fun e w' => e = .returned (.bool true) ∧ Below w.heap.size w w' := by
 obtain ⟨P, hce, hck, hpk, hp1, hp2, hag⟩ := BQ hri
 obtain ⟨left, hlf, hrun, h16, hcv⟩ := hag row
 obtain ⟨P2, hov, hv2, hrun2⟩ := Qk hri hce h128 hp2
 have hrun2 := hrun2 row
 have hso := Ef hst
 have hst2 : ∀ s ∈ KX l, Be s := fun s hs => by
   have z : ∀ k : Int, 0 ≤ k → Be (oP k) := fun k hk => ⟨(show I64 0 by unfold I64; decide), (show (⟨#[]⟩ : ByteArray).size ≤ LIM by decide), hk⟩
   simp only [List.mem_append, List.mem_singleton] at hs
   rcases hs with (rfl | hs) | rfl
   · exact z 3 (by decide)
   · exact hst s hs
   · exact z 21 (by decide)
 have hso2 := Ef hst2
 rw [hce] at hso h256
 rw [hov] at hso2
 dsimp only at hso hso2 h256
 obtain ⟨⟨t, y⟩, hey⟩ : ∃ r, Bj l row = r := ⟨_, rfl⟩
 rw [hey] at hrun h16 hcv
 dsimp only at h16 hcv
 obtain ⟨t2, y2, nl2, hr2, hend⟩ : ∃ t2 y2 nl2, BC P2 row 100 = ((t2, y2), nl2) ∧ ((y2 = 0 ∧ t2 = AK false ∧ nl2 = 98) ∨ (y2 = y ∧ y ≠ 0)) := by
   by_cases hc : Ao row 0 = 0
   · rw [if_pos hc] at hrun2
     exact ⟨_, _, _, hrun2, Or.inl ⟨rfl, rfl, rfl⟩⟩
   · rw [if_neg hc] at hrun2 hcv
     exact ⟨_, _, _, hrun2, Or.inr ⟨hcv.symm, by rw [hcv]; exact hc⟩⟩
 have hcp := fun (w' : World) (hb : Below w.heap.size w w') => Ce l A0 c0 w' hlen hst (hL.below hb) (hrow.keep hb)
 have hco := fun (w' : World) (A : Option Addr) (c : Nat) (hb : Below w.heap.size w w') (hp : RowS w' (KX l) A) => Ce (KX l) A c w' (by simp only [List.length_append, List.length_singleton]; unfold LIM; omega) hst2 (hL.below hb) hp
 unfold C0 at hcp hco
 rw [hce] at hcp
 rw [hov] at hco
 dsimp only at hcp hco
 have hrn := fun (w' : World) (A : Option Addr) (c : Nat) (hb : Below w.heap.size w w') (hp : RowI w' P A) => O7 P A c row P.length r0 r1 r2 r3 r4 r5 w' (by unfold LIM; omega) hso (hL.below hb) hp (hr.grow hb)
 have hrn2 := fun (w' : World) (A : Option Addr) (c : Nat) (hb : Below w.heap.size w w') (hp : RowI w' P2 A) => O7 P2 A c row 100 r0 r1 r2 r3 r4 r5 w' (by unfold LIM; omega) hso2 (hL.below hb) hp (hr.grow hb)
 rw [hrun] at hrn
 rw [hr2] at hrn2
 obtain ⟨kt, bt, nt, st, lt, ft⟩ := t
 obtain ⟨k2, b2, n2, s2, l2, f2⟩ := t2
 have hpos := JE (C4 hri).1
 obtain ⟨b0, o0, rfl, hbl, hsa⟩ := hrow.cells hpos
 have HSL := Lib.hid (DN l)
 have HS1 := Lib.hid (I2 l)
 have hw1 : IntKind.i64.wrap ((l.length : Int) + 2) = (l.length : Int) + 2 := IntWalk.i64_in _ (by omega)
 have hw2 : IntKind.i64.wrap (2 * (P.length : Int)) = 2 * (P.length : Int) := IntWalk.i64_in _ (by omega)
 have hw3 : IntKind.i64.wrap (2 * (P.length : Int) + 4) = 2 * (P.length : Int) + 4 := IntWalk.i64_in _ (by omega)
 have q2 : decide (128 < (l.length : Int) + 2) = false := decide_eq_false (by omega)
 have q3 : decide (256 < 2 * (P.length : Int) + 4) = false := decide_eq_false (by omega)
 have q4 : (y == 16) = false := by simpa using h16
 have q5 : decide ((left : Int) < 0) = false := decide_eq_false (by omega)
 clear hso hso2 hce hov hck hpk hag hrun hrun2 hr2 hey hri hst2 hcv h16 hv2
 obtain ⟨n, hn⟩ : ∃ n, l.length = n := ⟨_, rfl⟩
 have HN := Lib.hid hn
 rw [show (KX l).length = 1 + n + 1 by simp [hn]; try omega] at hco
 rw [hn] at hcp hpos HSL hw1 q2 h128 ⊢
 generalize hpn : P.length = m at *
 generalize hpn2 : P2.length = m2 at *
 have hr0 := hr
 obtain ⟨kr, br, nr, sr, lr, fr, ar1, cr1, ar2, cr2, hre, er, hjx⟩ := RV.mk_parts hr
 simp only [List.cons.injEq, and_true] at er
 obtain ⟨rfl, rfl, rfl, rfl, rfl, rfl⟩ := er
 have hb0 := Ad (w := w) (.cells #[.int .u8 kr, .bool br, .int .i64 nr, .string sr, .slice ar1 lr.len cr1, .slice ar2 fr.len cr2] 27)
 have hxb := Ct (w := w.alloc (.cells #[.int .u8 kr, .bool br, .int .i64 nr, .string sr, .slice ar1 lr.len cr1, .slice ar2 fr.len cr2] 27)) rfl hr0
 have HLV := Lib.hid (Ca _ (hL.below hb0))
 have HB0 := Lib.hid hb0
 have HX0 := Lib.hid hxb
 clear hb0 hxb hjx hre
 have HCP := Lib.hid hcp
 have HCO := Lib.hid hco
 have HRN := Lib.hid hrn
 have HRN2 := Lib.hid hrn2
 have HSA0 := Lib.hid hsa
 have HBL0 := Lib.hid hbl
 have HEND := Lib.hid hend
 clear hcp hco hrn hrn2 hsa hbl hL hst hrow hr hr0 hlen hn hpn hpn2 hp1 hp2 hlf hend
 go_enter Tryz.func4, Tryz.ntmps4
 go_upto_region 6 with (first | (go_at_call 13; (with_reducible refine (HLV.out).mono ?_); rintro e w1 ⟨rfl, hb1⟩; have HB1 := Lib.hid (Aa HB0.out HB0.out.size hb1); have HX1 := Lib.hid (HX0.out.keep hb1); clear hb1) | (go_at_call 14; (with_reducible refine (HCP.out _ HB1.out).mono ?_); rintro e w2 ⟨A2, c2, rfl, _, hp2, hb2⟩; have HB2 := Lib.hid (Aa HB1.out HB1.out.size hb2); have HX2 := Lib.hid (HX1.out.keep hb2); have HP2 := Lib.hid hp2; clear hb2 hp2))
 clear HLV HB0 HX0 HB1 HX1 HCP hw1 hw2 hw3 q2 q3
 obtain ⟨x0, x1, x2, x3, x4, x5, x6⟩ := Ae HX2.out.1
 go_upto_region 7 with (go_at_call 15; (with_reducible refine (HRN.out _ _ _ HB2.out HP2.out).mono ?_); intro e w5 hrn5; obtain ⟨hb5, a1, c1, a2, c2', rfl, hv5⟩ := hrn5.parts (m := left) rfl; have HB5 := Lib.hid (Aa HB2.out HB2.out.size hb5); have HX5 := Lib.hid (HX2.out.keep hb5); clear hb5 hv5 hrn5 x0 x1 x2 x3 x4 x5 x6)
 have hbn := Ad (w := w5) (.cells #[.int .u8 kt, .bool bt, .int .i64 nt, .string st, .slice a1 lt.len c1, .slice a2 ft.len c2'] 27)
 have hx6 := HX5.out.keep hbn
 have hb6 := Aa HB5.out HB5.out.size hbn
 generalize w5.alloc (.cells #[.int .u8 kt, .bool bt, .int .i64 nt, .string st, .slice a1 lt.len c1, .slice a2 ft.len c2'] 27) = W9 at *
 generalize w5.heap.size = g6 at *
 have HX9 := Lib.hid hx6
 have HB9 := Lib.hid hb6
 have HSA := Lib.hid (HSA0.out.keep hb6 HBL0.out)
 have HBL := Lib.hid (Nat.lt_of_lt_of_le HBL0.out hb6.size)
 clear hx6 hb6 hbn HB2 HX2 HP2 HB5 HX5 HRN HSA0 HBL0
 go_upto_region 9 with (fail)
 obtain ⟨i0, hi0, hz00, hz1, hz2⟩ := info_parts Tryz.infoS
 have E1 : Hid (1 + n ≤ maxLen) := Lib.hid (by unfold maxLen; omega)
 have E2 : Hid ((1 + n) * 32 ≤ 140737488355328) := Lib.hid (by omega)
 have E3 : Hid (1 + n + 1 ≤ maxLen) := Lib.hid (by unfold maxLen; omega)
 have E4 : Hid ((1 + n + 1) * 32 ≤ 140737488355328) := Lib.hid (by omega)
 have HLIT : Hid ((W9.alloc (.cells #[.int .u8 3, .string ⟨#[]⟩, .int .i64 0] 43)).ownsRow W9.heap.size 43 3 (.slice (some ⟨W9.heap.size, 0, none⟩) 1 1) 1 [.int .u8 3, .string ⟨#[]⟩, .int .i64 0]) := Lib.hid (World.ownsRow_lit W9 #[.int .u8 3, .string ⟨#[]⟩, .int .i64 0] 1 (Nat.le_refl _) (by unfold maxLen; omega) rfl)
 have HCO := Lib.hid (fun (w' : World) (A : Option Addr) (c : Nat) (hb : Below W9.heap.size W9 w') (hp : RowS w' (KX l) A) => HCO.out w' A c (Aa HB9.out HB9.out.size hb) hp)
 go_upto_region 10 with (first | (at_builtin; refine wpList_append_lies _ rfl _ _ 22 rfl W9.heap.size 43 i0 (.agg #[.int .u8 0, .string ⟨#[]⟩, .int .i64 0]) 3 32 Tryz.underlying22 hi0 hz00 hz1 hz2 rfl (by decide) (.slice (some ⟨W9.heap.size, 0, none⟩) 1 1) 1 [.int .u8 3, .string ⟨#[]⟩, .int .i64 0] (by rfl) HLIT.out ⟨b0, o0, none⟩ n c0 (Bi l) (by rfl) HSL.out (LT (HSA.out.keep (Ad _) HBL.out)) HS1.out hpos E1.out E2.out (by simp) (W9.heap.size + 1) (by simp) ?_; intro g20 cap20 w20 hown hgrow hat2 hlt2; have HB20 := Lib.hid ((Ad (w := W9) (.cells #[.int .u8 3, .string ⟨#[]⟩, .int .i64 0] 43)).grown hgrow (by simp) (fun k hk => by cases hk; exact Nat.le_refl _)); have HO20 := Lib.hid hown; clear hown hgrow hat2 hlt2) | (at_builtin; refine wpList_append_lies _ rfl _ _ 22 rfl W9.heap.size 43 i0 (.agg #[.int .u8 0, .string ⟨#[]⟩, .int .i64 0]) 3 32 Tryz.underlying22 hi0 hz00 hz1 hz2 rfl (by decide) (.slice (some ⟨g20, 0, none⟩) (1 + n) cap20) (1 + n) ([.int .u8 3, .string ⟨#[]⟩, .int .i64 0] ++ Bi l) (by rfl) (HO20.out.alloc _) ⟨w20.heap.size, 0, none⟩ 1 1 [.int .u8 21, .string ⟨#[]⟩, .int .i64 0] (by rfl) rfl Qp (by intro u hu; simp only [List.mem_cons, List.not_mem_nil, or_false] at hu; rcases hu with rfl | rfl | rfl <;> rfl) (by decide) E3.out E4.out (by have := HB20.out.size; simp; omega) (w20.heap.size + 1) (by simp) ?_; intro g22 cap22 w22 hown hgrow hat2 hlt2; have HB22 := Lib.hid ((Aa HB20.out HB20.out.size (Ad _)).grown hgrow (by have := HB20.out.size; simp; omega) (fun k hk => (HO20.out.lt k hk).1)); have HO22 := Lib.hid hown; clear hown hgrow hat2 hlt2) | (go_at_call 14; (with_reducible refine (HCO.out _ _ _ HB22.out (Qa HO22.out HN.out)).mono ?_); rintro e w23 ⟨A23, c23, rfl, _, hp23, hb23⟩; have HB23 := Lib.hid (Aa HB22.out HB22.out.size hb23); have HP23 := Lib.hid hp23; clear hb23 hp23))
 have hb23 := Aa HB9.out HB9.out.size HB23.out
 have hx23 := HX9.out.keep HB23.out
 have HX10 := Lib.hid hx23
 have HB10 := Lib.hid hb23
 clear hb23 hx23 HB9 HX9 HB20 HB22 HB23 HO20 HO22 HLIT HSA HBL E1 E2 E3 E4 HSL HS1 hz00 hi0 hz1 hz2 HCO q4 q5
 obtain ⟨x0, x1, x2, x3, x4, x5, x6⟩ := Ae HX10.out.1
 go_upto_region 11 with (go_at_call 15; (with_reducible refine (HRN2.out _ _ _ HB10.out HP23.out).mono ?_); intro e w25 hrn25; obtain ⟨hb25, d1, e1, d2, e2, rfl, hv25⟩ := hrn25.parts (m := nl2) rfl; have HB25 := Lib.hid (Aa HB10.out HB10.out.size hb25); clear hb25 hv25 hrn25 x0 x1 x2 x3 x4 x5 x6)
 have hbn := Ad (w := w25) (.cells #[.int .u8 k2, .bool b2, .int .i64 n2, .string s2, .slice d1 l2.len e1, .slice d2 f2.len e2] 27)
 have hx26 := Ab w25 (.cells #[.int .u8 k2, .bool b2, .int .i64 n2, .string s2, .slice d1 l2.len e1, .slice d2 f2.len e2] 27)
 have hb26 := Aa HB25.out HB25.out.size hbn
 generalize w25.alloc (.cells #[.int .u8 k2, .bool b2, .int .i64 n2, .string s2, .slice d1 l2.len e1, .slice d2 f2.len e2] 27) = w26 at *
 generalize w25.heap.size = g26 at *
 have HB26 := Lib.hid hb26
 have HX26 := Lib.hid hx26
 clear hbn hx26 hb26 HB10 HX10 HP23 HB25 HRN2
 rcases HEND.out with ⟨rfl, ht, rfl⟩ | ⟨rfl, hy⟩
 · cases ht
   obtain ⟨y0, y1, y2', y3, y4, y5, y6⟩ := Ae HX26.out
   clear HEND
   by_cases hy : y = 0
   · have hyd : (y != 0) = false := by simpa using hy
     clear hy
     go_wp2_with fail
     go_ret
     exact ⟨rfl, HB26.out⟩
   · have hyd : (y != 0) = true := by simpa using hy
     clear hy
     go_wp2_with fail
     go_ret
     exact ⟨rfl, HB26.out⟩
 · have hyd : (y2 != 0) = true := by simpa using hy
   clear hy HEND
   go_wp2_with fail
   go_ret
   exact ⟨rfl, HB26.out⟩
end
theorem LP (l : List ST) (A0 : Option Addr) (c0 : Nat) (row : VT) (r0 r1 r2 r3 r4 r5 : Value) (w : World) (hL : Laid w) (hlen : l.length ≤ LIM) (hst : ∀ s ∈ l, Be s) (hrow : RowS w l A0) (hr : RV w 0 w.heap.size row [r0, r1, r2, r3, r4, r5]) :
   Calls Tryz.prog 4 #[.slice A0 l.length c0, .agg #[r0, r1, r2, r3, r4, r5]] w fun e w' => e = .returned (.bool true) ∧ Below w.heap.size w w' := by
 cases h : Av l with
 | false => exact Hc l A0 c0 row r0 r1 r2 r3 r4 r5 w hL hlen hst hrow hr (Or.inl h)
 | true =>
   by_cases hq : 128 < l.length + 2 ∨ 256 < 2 * (AB l).1.length + 4
   · exact Hc l A0 c0 row r0 r1 r2 r3 r4 r5 w hL hlen hst hrow hr (Or.inr ⟨h, hq⟩)
   · exact Nj l A0 c0 row r0 r1 r2 r3 r4 r5 w hL hlen hst hrow hr h (by omega) (by omega)
end Go.Proofs.YtbemgcjckchdjaaGreatDoor
