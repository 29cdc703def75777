import Derived.Test.YtgjgllfeinjpnaaGreatDoorKUh
/- codicillaw11.ExprNull: the walk, part C (printed by genull.py). -/
namespace Go.Proofs.YtgjgllfeinjpnaaGreatDoor
open Go.RowKit
set_option linter.unusedSimpArgs false
set_option linter.unusedVariables false
set_option maxHeartbeats 4000000
set_option maxRecDepth 100000
theorem nullC_calls (l : List ST) (A0 : Option Addr) (c0 : Nat) (row : VT) (r0 r1 r2 r3 r4 r5 : Value) (k : Int) (w : World) (hL : Laid w) (hlen : l.length + 2 ≤ 128) (hst : ∀ s ∈ l, StOk s) (hrow : RowS w l A0) (hr : RV w 0 w.heap.size row [r0, r1, r2, r3, r4, r5])
    (kv : Int) (bv : Bool) (nv : Int) (sv : ByteArray) (lv : VL) (fv : FL) (he : evalE l row = (.mk kv bv nv sv lv fv, 0)) (hk : k = 21 ∨ k = 22) (hv1 : ¬ 1 < kv) :
    Calls Tryz.prog 5 #[.slice A0 l.length c0, .agg #[r0, r1, r2, r3, r4, r5], .int .u8 k] w fun e w' => e = .returned (.bool true) ∧ Below w.heap.size w w' := by
  have hk12 : 12 ≤ k ∧ k ≤ 22 := by omega
  have hlx := null_left he hlen hk12
  have hly := null_right he hlen hk12
  obtain ⟨⟨⟨kx, bx, nx, sx, lx, fx⟩, ex⟩, hX⟩ : ∃ r : Rz, oneR (oP k) row [(nullV, 0), (.mk kv bv nv sv lv fv, 0)] = r := ⟨_, rfl⟩
  obtain ⟨⟨⟨ky, by', ny, sy, ly, fy⟩, ey⟩, hY⟩ : ∃ r : Rz, oneR (oP k) row [(.mk kv bv nv sv lv fv, 0), (nullV, 0)] = r := ⟨_, rfl⟩
  rw [hX] at hlx
  rw [hY] at hly
  have HLX := Lib.hid hX
  have HLY := Lib.hid hY
  have hpos : 0 < l.length := right_pos (right_of (eval_ok he).1).1
  have htid : Tid (.mk kv bv nv sv lv fv) := by have h := tree_tid (eval_ok he).2.1 l; rw [(eval_ok he).2.2] at h; exact h
  have HTID := Lib.hid htid
  have hstn : ∀ s ∈ [nP] ++ l ++ [oP k], StOk s := null_steps hst (by omega)
  have hstm : ∀ s ∈ l ++ [nP] ++ [oP k], StOk s := null_steps' hst (by omega)
  have hr0 := hr
  obtain ⟨kr, br, nr, sr, lr, fr, ar1, cr1, ar2, cr2, hre, er, hjx⟩ := RV.mk_parts hr
  simp only [List.cons.injEq, and_true] at er
  obtain ⟨rfl, rfl, rfl, rfl, rfl, rfl⟩ := er
  clear hjx hr hre hX hY htid
  have hb0 := below_new (w := w) (.cells #[.int .u8 kr, .bool br, .int .i64 nr, .string sr, .slice ar1 lr.len cr1, .slice ar2 fr.len cr2] 26)
  have hrb : RowBox w.heap.size row (w.alloc (.cells #[.int .u8 kr, .bool br, .int .i64 nr, .string sr, .slice ar1 lr.len cr1, .slice ar2 fr.len cr2] 26)) (.int .u8 kr) (.bool br) (.int .i64 nr) (.string sr) (.slice ar1 lr.len cr1) (.slice ar2 fr.len cr2) := ⟨heap_last _ _, hr0.grow hb0⟩
  have HLV := Lib.hid (lives_calls _ (hL.below hb0))
  have HLD := Lib.hid hL
  have HB0 := Lib.hid hb0
  have HRB0 := Lib.hid hrb
  have HEV1 := Lib.hid (fun (w' : World) (hb : Below w.heap.size w w') => evalM_calls l A0 c0 row _ _ _ _ _ _ w' (by unfold LIM; omega) hst (hL.below hb) (RowS.keep hrow hb) (hr0.grow hb))
  obtain ⟨b0, o0, rfl, hbl, hsa⟩ := hrow.cells hpos
  rw [he] at HEV1
  have HSA := Lib.hid hsa
  have HBL := Lib.hid hbl
  have HST := Lib.hid hstn
  have HSM := Lib.hid hstm
  have HRR0 := Lib.hid hr0
  have HLXE := Lib.hid hlx
  have HLYE := Lib.hid hly
  have HSL := Lib.hid (scells_length l)
  have HS1 := Lib.hid (scells_one l)
  obtain ⟨n, hn⟩ : ∃ n, l.length = n := ⟨_, rfl⟩
  rw [hn] at hlen hpos HSL HEV1 ⊢
  have HN := Lib.hid hn
  have hw2 : wrap64 ((n : Int) + 2) = (n : Int) + 2 := IntWalk.wrap64_in _ (by omega)
  have hw3 : IntKind.i64.wrap ((n : Int) + 2) = (n : Int) + 2 := IntWalk.i64_in _ (by omega)
  have d1 : decide ((128 : Int) < (n : Int) + 2) = false := decide_eq_false (by omega)
  have d2 : decide (k < 12) = false := decide_eq_false (by omega)
  have d3 : decide (23 ≤ k) = false := decide_eq_false (by omega)
  clear hb0 hrb hL hst hrow hr0 hbl hsa hstn hstm hlx hly hn he
  go_enter Tryz.func5, Tryz.ntmps5
  go_upto_region 3 with (go_at_call 9; (with_reducible refine (HLV.out).mono ?_); rintro e w1 ⟨rfl, hb1⟩; have HB1 := Lib.hid (below_call0 HB0.out HB0.out.size hb1); have HRB1 := Lib.hid (HRB0.out.keep hb1); clear hb1)
  clear HLV HB0 HRB0
  obtain ⟨y0, y1, y2, y3, y4, y5, y6⟩ := cells6 HRB1.out.1
  go_upto_region 4 with (go_at_call 13; (with_reducible refine (HEV1.out _ HB1.out).mono ?_); intro e w8 hev; obtain ⟨hb8, a1, c1, a2, c2, rfl, hv8⟩ := hev.parts; have HB8 := Lib.hid hb8; have HV8 := Lib.hid hv8; clear hev hb8 hv8)
  have hb9 := below_new (w := w8) (.cells #[.int .u8 kv, .bool bv, .int .i64 nv, .string sv, .slice a1 lv.len c1, .slice a2 fv.len c2] 26)
  have hvb : RowBox w8.heap.size (.mk kv bv nv sv lv fv) (w8.alloc (.cells #[.int .u8 kv, .bool bv, .int .i64 nv, .string sv, .slice a1 lv.len c1, .slice a2 fv.len c2] 26)) (.int .u8 kv) (.bool bv) (.int .i64 nv) (.string sv) (.slice a1 lv.len c1) (.slice a2 fv.len c2) := ⟨heap_last _ _, (RV.keep (Same.of_below (Below.refl _ _)) (Nat.zero_le _) (Nat.le_refl _) _ _ HV8.out).grow hb9⟩
  have HB9 := Lib.hid (below_call0 (below_call0 HB1.out HB1.out.size HB8.out) (below_call0 HB1.out HB1.out.size HB8.out).size hb9)
  have HRB9 := Lib.hid ((HRB1.out.keep HB8.out).keep hb9)
  generalize w8.alloc (.cells #[.int .u8 kv, .bool bv, .int .i64 nv, .string sv, .slice a1 lv.len c1, .slice a2 fv.len c2] 26) = W9 at *
  have HVB9 := Lib.hid hvb
  have hv : kv = 0 ∨ kv = 1 := by have h : 0 ≤ kv := HV8.out.num.2.2.2.2.1; omega
  clear hb9 hvb y0 y1 y2 y3 y4 y5 y6 HV8 HB8 HB1 HRB1 HEV1
  go_upto_region 6 with (fail)
  obtain ⟨i0, hi0, hz00, hz1, hz2⟩ := info_parts Tryz.infoS
  have E1 : Hid (1 + n ≤ maxLen) := Lib.hid (by unfold maxLen; omega)
  have E2 : Hid ((1 + n) * 32 ≤ 140737488355328) := Lib.hid (by omega)
  have E3 : Hid (n + 1 ≤ maxLen) := Lib.hid (by unfold maxLen; omega)
  have E4 : Hid ((n + 1) * 32 ≤ 140737488355328) := Lib.hid (by omega)
  have E5 : Hid (0 + n ≤ maxLen) := Lib.hid (by unfold maxLen; omega)
  have E6 : Hid ((0 + n) * 32 ≤ 140737488355328) := Lib.hid (by omega)
  have HLIT : Hid ((W9.alloc (.cells #[.int .u8 1, .string ⟨#[]⟩, .int .i64 0] 46)).ownsRow W9.heap.size 46 3 (.slice (some ⟨W9.heap.size, 0, none⟩) 1 1) 1 [.int .u8 1, .string ⟨#[]⟩, .int .i64 0]) := Lib.hid (World.ownsRow_lit W9 #[.int .u8 1, .string ⟨#[]⟩, .int .i64 0] 1 (Nat.le_refl _) (by unfold maxLen; omega) rfl)
  go_upto_region 8 with (first | (at_builtin; refine wpList_append_lies _ rfl _ _ 36 rfl W9.heap.size 46 i0 (.agg #[.int .u8 0, .string ⟨#[]⟩, .int .i64 0]) 3 32 Tryz.underlying36 hi0 hz00 hz1 hz2 rfl (by decide) (.slice (some ⟨W9.heap.size, 0, none⟩) 1 1) 1 [.int .u8 1, .string ⟨#[]⟩, .int .i64 0] (by rfl) HLIT.out ⟨b0, o0, none⟩ n c0 (scells l) (by rfl) HSL.out (steps_cells ((HSA.out.keep HB9.out HBL.out).keep (below_new _) (Nat.lt_of_lt_of_le HBL.out HB9.out.size))) HS1.out hpos E1.out E2.out (by simp) (W9.heap.size + 1) (by simp) ?_; intro g20 cap20 w20 hown hgrow hat2 hlt2; have HB20 := Lib.hid ((below_new (w := W9) (.cells #[.int .u8 1, .string ⟨#[]⟩, .int .i64 0] 46)).grown hgrow (by simp) (fun k hk => by cases hk; exact Nat.le_refl _)); have HO20 := Lib.hid hown; have HSA20 := Lib.hid ((HSA.out.keep HB9.out HBL.out).keep HB20.out (Nat.lt_of_lt_of_le HBL.out HB9.out.size)); have HBL20 := Lib.hid (Nat.lt_of_lt_of_le (Nat.lt_of_lt_of_le HBL.out HB9.out.size) HB20.out.size); have HE20 := Lib.hid (owns_empty w20 46 3); clear hown hgrow hat2 hlt2) | (at_builtin; refine wpList_append_lies _ rfl _ _ 36 rfl w20.heap.size 46 i0 (.agg #[.int .u8 0, .string ⟨#[]⟩, .int .i64 0]) 3 32 Tryz.underlying36 hi0 hz00 hz1 hz2 rfl (by decide) (.slice (some ⟨w20.heap.size, 0, none⟩) 0 0) 0 [] (by rfl) HE20.out ⟨b0, o0, none⟩ n c0 (scells l) (by rfl) HSL.out (steps_cells (HSA20.out.keep (below_new _) HBL20.out)) HS1.out hpos E5.out E6.out (by simp) (w20.heap.size + 1) (by simp) ?_; intro g21 cap21 w21 hown hgrow hat2 hlt2; have HB21 := Lib.hid ((below_new (w := w20) (.cells #[] 46)).grown hgrow (by simp) (fun k hk => by cases hk; exact Nat.le_refl _)); rw [Nat.zero_add] at hown; have HO21 := Lib.hid hown; clear hown hgrow hat2 hlt2) | (at_builtin; refine wpList_append_lies _ rfl _ _ 36 rfl w20.heap.size 46 i0 (.agg #[.int .u8 0, .string ⟨#[]⟩, .int .i64 0]) 3 32 Tryz.underlying36 hi0 hz00 hz1 hz2 rfl (by decide) (.slice (some ⟨g21, 0, none⟩) n cap21) n ([] ++ scells l) (by rfl) (HO21.out.alloc _) ⟨w21.heap.size, 0, none⟩ 1 1 [.int .u8 1, .string ⟨#[]⟩, .int .i64 0] (by rfl) rfl step_new (by intro u hu; simp only [List.mem_cons, List.not_mem_nil, or_false] at hu; rcases hu with rfl | rfl | rfl <;> rfl) (by decide) E3.out E4.out (by have := HB21.out.size; simp; omega) (w21.heap.size + 1) (by simp) ?_; intro g22 cap22 w22 hown hgrow hat2 hlt2; have HB22 := Lib.hid ((below_call0 HB21.out HB21.out.size (below_new _)).grown hgrow (by have := HB21.out.size; simp; omega) (fun k hk => (HO21.out.lt k hk).1)); have HO22 := Lib.hid hown; clear hown hgrow hat2 hlt2))
  have hb22 := below_call0 HB20.out HB20.out.size HB22.out
  have HBW := Lib.hid (below_call0 HB9.out HB9.out.size hb22)
  have HROW := Lib.hid (HRB9.out.keep hb22)
  have HVB := Lib.hid (HVB9.out.keep hb22)
  have HSTL : Hid (RowS w22 ([nP] ++ l) (some ⟨g20, 0, none⟩)) := Lib.hid (step_row (B := W9.heap.size) (c := cap20) (by rw [show ([nP] ++ l).length = 1 + n by simp [HN.out]; omega]; exact owns_below HO20.out HB22.out))
  have HSTR : Hid (RowS w22 (l ++ [nP]) (some ⟨g22, 0, none⟩)) := Lib.hid (step_row (B := w20.heap.size) (c := cap22) (by rw [show (l ++ [nP]).length = n + 1 by simp [HN.out], scells_snoc]; exact HO22.out))
  clear hb22 HB9 HRB9 HVB9 HB20 HB21 HB22 HO20 HO21 HO22 HLIT HSA HSA20 HE20 HBL HBL20 E1 E2 E3 E4 E5 E6 HSL HS1 hz00 hi0 hz1 hz2
  have hof := fun (w' : World) (hb : Below w22.heap.size w22 w') => with_calls ([nP] ++ l) k (some ⟨g20, 0, none⟩) cap20 w' (by simp) (by simp [HN.out]; omega) (RowS.keep HSTL.out hb)
  have hev := fun (w' : World) (A : Option Addr) (c : Nat) (hb : Below w22.heap.size w22 w') (hr : RowS w' ([nP] ++ l ++ [oP k]) A) => evalM_calls ([nP] ++ l ++ [oP k]) A c row _ _ _ _ _ _ w' (by simp [HN.out]; unfold LIM; omega) HST.out (HLD.out.below (below_call0 HBW.out HBW.out.size hb)) hr (HROW.out.keep hb).2
  rw [HLXE.out] at hev
  rw [show ([nP] ++ l).length = 1 + n by simp [HN.out]; try omega] at hof
  rw [show ([nP] ++ l ++ [oP k]).length = 1 + n + 1 by simp [HN.out]; try omega] at hev
  have HOF := Lib.hid hof
  have HEV := Lib.hid hev
  clear hof hev
  generalize [nP] ++ l ++ [oP k] = stsk at HOF HEV
  have HDA := Lib.hid (below_new (w := w22) zeroO)
  have HDZ := Lib.hid (heap_last w22 zeroO)
  obtain ⟨y0, y1, y2, y3, y4, y5, y6⟩ := cells6 HROW.out.1
  obtain ⟨x0, x1, x2, x3, x4, x5, x6⟩ := cells6 (blk_alloc (o := zeroO) HROW.out.1)
  go_cut [11, 12] (fun s11 s12 wx => ∃ g, s11 = .pointer (some ⟨g, 0, none⟩) ∧ s12 = .int .i64 ex ∧ Cut w22 wx g (.mk kx bx nx sx lx fx))
  case first =>
    go_region_with (first | (go_at_call 14; first | ((with_reducible refine (HOF.out _ (Below.drew (Below.refl _ _))).mono ?_); rintro e w5 ⟨A5, c5, rfl, hr5, hb5⟩; have HB5 := Lib.hid (below_call0 (Below.drew (Below.refl w22.heap.size w22)) (Nat.le_refl _) hb5); have HR5 := Lib.hid hr5; clear hr5 hb5 y0 y1 y2 y3 y4 y5 y6 x0 x1 x2 x3 x4 x5 x6; obtain ⟨y0, y1, y2, y3, y4, y5, y6⟩ := cells6 (HROW.out.keep HB5.out).1; obtain ⟨x0, x1, x2, x3, x4, x5, x6⟩ := cells6 (blk_alloc (o := zeroO) (HROW.out.keep HB5.out).1)) | ((with_reducible refine (HOF.out _ (Below.drew HDA.out)).mono ?_); rintro e w5 ⟨A5, c5, rfl, hr5, hb5⟩; have HB5 := Lib.hid (below_call0 (Below.drew HDA.out) HDA.out.size hb5); have HZ5 := Lib.hid (blk (W := (w22.alloc zeroO).drew) hb5 HDZ.out); have HR5 := Lib.hid hr5; clear hr5 hb5 y0 y1 y2 y3 y4 y5 y6 x0 x1 x2 x3 x4 x5 x6; obtain ⟨y0, y1, y2, y3, y4, y5, y6⟩ := cells6 (HROW.out.keep HB5.out).1; obtain ⟨x0, x1, x2, x3, x4, x5, x6⟩ := cells6 (blk_alloc (o := zeroO) (HROW.out.keep HB5.out).1))) | (go_at_call 13; first | ((with_reducible refine (HEV.out w5 A5 c5 HB5.out HR5.out).mono ?_); intro e w8 hev; obtain ⟨hb8, a1, c1, a2, c2, rfl, hv8⟩ := hev.parts; have HB8 := Lib.hid hb8; have HV8 := Lib.hid hv8; clear hev hb8 hv8; first | (have hz8 := blk HB8.out HZ5.out; obtain ⟨z0, z1, z2, z3, z4, z5, z6⟩ := cells6 hz8; clear hz8) | skip) | ((with_reducible refine (HEV.out (w5.alloc zeroO) A5 c5 (below_call0 HB5.out HB5.out.size (below_new _)) (RowS.keep HR5.out (below_new _))).mono ?_); intro e w8 hev; obtain ⟨hb8, a1, c1, a2, c2, rfl, hv8⟩ := hev.parts; have HB8 := Lib.hid hb8; have HV8 := Lib.hid hv8; clear hev hb8 hv8; obtain ⟨z0, z1, z2, z3, z4, z5, z6⟩ := cells6 (blk HB8.out (heap_last w5 zeroO)))))
    all_goals (go_wp2_with fail)
    all_goals go_meet
    all_goals (refine ⟨_, rfl, rfl, ?_⟩)
    all_goals first | (have hz := blk HB8.out HZ5.out; have hc := cutA (below_call0 HB5.out HB5.out.size HB8.out) hz HV8.out (lt_of_block HZ5.out); with_reducible exact hc) | (have hc := cutD (below_call0 HB5.out HB5.out.size HB8.out) HV8.out HB5.out.size; with_reducible exact hc) | (have hc := cutB HB5.out HB8.out HV8.out; with_reducible exact hc)
  case rest =>
    obtain ⟨g11, rfl, rfl, hcd⟩ := hcut
    have hrow := HROW.out.keep hcd.1
    have hvb := HVB.out.keep hcd.1
    have hst := RowS.keep HSTR.out hcd.1
    have hbw := below_call0 HBW.out HBW.out.size hcd.1
    have HX11 := Lib.hid hcd.2
    clear HROW HBW HVB HSTR HSTL HOF HEV HDA HDZ y0 y1 y2 y3 y4 y5 y6 x0 x1 x2 x3 x4 x5 x6 hcd
    have HROW := Lib.hid hrow
    have HVB := Lib.hid hvb
    have HSTR := Lib.hid hst
    have HBW := Lib.hid hbw
    clear hrow hvb hst hbw
    obtain ⟨W11, hW⟩ : ∃ x, x = wc := ⟨_, rfl⟩
    subst hW
    go_upto_region 9 with (fail)
    have hof := fun (w' : World) (hb : Below W11.heap.size W11 w') => with_calls (l ++ [nP]) k (some ⟨g22, 0, none⟩) cap22 w' (by simp) (by simp [HN.out]; omega) (RowS.keep HSTR.out hb)
    have hev := fun (w' : World) (A : Option Addr) (c : Nat) (hb : Below W11.heap.size W11 w') (hr : RowS w' (l ++ [nP] ++ [oP k]) A) => evalM_calls (l ++ [nP] ++ [oP k]) A c row _ _ _ _ _ _ w' (by simp [HN.out]; unfold LIM; omega) HSM.out (HLD.out.below (below_call0 HBW.out HBW.out.size hb)) hr (HROW.out.keep hb).2
    rw [HLYE.out] at hev
    rw [show (l ++ [nP]).length = n + 1 by simp [HN.out]; try omega] at hof
    rw [show (l ++ [nP] ++ [oP k]).length = n + 1 + 1 by simp [HN.out]; try omega] at hev
    have HOF := Lib.hid hof
    have HEV := Lib.hid hev
    clear hof hev
    generalize l ++ [nP] ++ [oP k] = stsk at HOF HEV
    have HDA := Lib.hid (below_new (w := W11) zeroO)
    have HDZ := Lib.hid (heap_last W11 zeroO)
    obtain ⟨y0, y1, y2, y3, y4, y5, y6⟩ := cells6 HROW.out.1
    obtain ⟨x0, x1, x2, x3, x4, x5, x6⟩ := cells6 (blk_alloc (o := zeroO) HROW.out.1)
    go_cut [13, 14] (fun s13 s14 wx => ∃ g, s13 = .pointer (some ⟨g, 0, none⟩) ∧ s14 = .int .i64 ey ∧ Cut W11 wx g (.mk ky by' ny sy ly fy))
    case first =>
      go_region_with (first | (go_at_call 14; first | ((with_reducible refine (HOF.out _ (Below.drew (Below.refl _ _))).mono ?_); rintro e w5 ⟨A5, c5, rfl, hr5, hb5⟩; have HB5 := Lib.hid (below_call0 (Below.drew (Below.refl W11.heap.size W11)) (Nat.le_refl _) hb5); have HR5 := Lib.hid hr5; clear hr5 hb5 y0 y1 y2 y3 y4 y5 y6 x0 x1 x2 x3 x4 x5 x6; obtain ⟨y0, y1, y2, y3, y4, y5, y6⟩ := cells6 (HROW.out.keep HB5.out).1; obtain ⟨x0, x1, x2, x3, x4, x5, x6⟩ := cells6 (blk_alloc (o := zeroO) (HROW.out.keep HB5.out).1)) | ((with_reducible refine (HOF.out _ (Below.drew HDA.out)).mono ?_); rintro e w5 ⟨A5, c5, rfl, hr5, hb5⟩; have HB5 := Lib.hid (below_call0 (Below.drew HDA.out) HDA.out.size hb5); have HZ5 := Lib.hid (blk (W := (W11.alloc zeroO).drew) hb5 HDZ.out); have HR5 := Lib.hid hr5; clear hr5 hb5 y0 y1 y2 y3 y4 y5 y6 x0 x1 x2 x3 x4 x5 x6; obtain ⟨y0, y1, y2, y3, y4, y5, y6⟩ := cells6 (HROW.out.keep HB5.out).1; obtain ⟨x0, x1, x2, x3, x4, x5, x6⟩ := cells6 (blk_alloc (o := zeroO) (HROW.out.keep HB5.out).1))) | (go_at_call 13; first | ((with_reducible refine (HEV.out w5 A5 c5 HB5.out HR5.out).mono ?_); intro e w8 hev; obtain ⟨hb8, a1, c1, a2, c2, rfl, hv8⟩ := hev.parts; have HB8 := Lib.hid hb8; have HV8 := Lib.hid hv8; clear hev hb8 hv8; first | (have hz8 := blk HB8.out HZ5.out; obtain ⟨z0, z1, z2, z3, z4, z5, z6⟩ := cells6 hz8; clear hz8) | skip) | ((with_reducible refine (HEV.out (w5.alloc zeroO) A5 c5 (below_call0 HB5.out HB5.out.size (below_new _)) (RowS.keep HR5.out (below_new _))).mono ?_); intro e w8 hev; obtain ⟨hb8, a1, c1, a2, c2, rfl, hv8⟩ := hev.parts; have HB8 := Lib.hid hb8; have HV8 := Lib.hid hv8; clear hev hb8 hv8; obtain ⟨z0, z1, z2, z3, z4, z5, z6⟩ := cells6 (blk HB8.out (heap_last w5 zeroO)))))
      all_goals (go_wp2_with fail)
      all_goals go_meet
      all_goals (refine ⟨_, rfl, rfl, ?_⟩)
      all_goals first | (have hz := blk HB8.out HZ5.out; have hc := cutA (below_call0 HB5.out HB5.out.size HB8.out) hz HV8.out (lt_of_block HZ5.out); with_reducible exact hc) | (have hc := cutD (below_call0 HB5.out HB5.out.size HB8.out) HV8.out HB5.out.size; with_reducible exact hc) | (have hc := cutB HB5.out HB8.out HV8.out; with_reducible exact hc)
    case rest =>
      obtain ⟨g13, rfl, rfl, hcd⟩ := hcut
      have hvb := HVB.out.keep hcd.1
      have hx11 := HX11.out.keep hcd.1
      have hbw := below_call0 HBW.out HBW.out.size hcd.1
      have HX13 := Lib.hid hcd.2
      clear HROW HBW HVB HSTR HX11 HOF HEV HDA HDZ y0 y1 y2 y3 y4 y5 y6 x0 x1 x2 x3 x4 x5 x6 hcd HLXE HLYE HLD HRR0 HN HST HSM
      obtain ⟨W13, hW⟩ : ∃ x, x = wc := ⟨_, rfl⟩
      subst hW
      have HBW := Lib.hid hbw
      obtain ⟨a11, c11, d11, e11, hz11, hv11⟩ := hx11.cells
      obtain ⟨a13, c13, d13, e13, hz13, hv13⟩ := HX13.out.cells
      have hz7 := hvb.1
      have hlx := HLX.out
      have hly := HLY.out
      have hlaw := null_truth (v := .mk kv bv nv sv lv fv) (row := row) hk hv HTID.out
      rw [hlx, hly] at hlaw
      have HS0 := Same_any _ _ W13 _ _ W13.heap.size (RV.keep (Same.of_below (Below.refl _ _)) (Nat.zero_le _) (Nat.le_refl _) _ _ hv13) hvb.2 (Nat.le_refl _)
      have d4 : decide (k < 21) = false := decide_eq_false (by omega)
      have hkd : (kv == 1 && (bv == (k == 22))) = true ∨ (kv == 1 && (bv == (k == 22))) = false := by cases (kv == 1 && (bv == (k == 22))) <;> simp
      have hlaw : ((VT.mk ky by' ny sy ly fy, ey) = ((VT.mk kv bv nv sv lv fv, 0) : Rz) ∨ (kv == 1 && (bv == (k == 22))) = false ∧ (VT.mk ky by' ny sy ly fy, ey) = ((nullV, 0) : Rz)) ∧ ((VT.mk kx bx nx sx lx fx, ex) = ((nullV, 0) : Rz) ∨ (kv == 1 && (bv == (k == 22))) = true ∧ (VT.mk kx bx nx sx lx fx, ex) = ((VT.mk kv bv nv sv lv fv, 0) : Rz)) := hlaw
      clear hlx hly hbw hx11 hv11 hv13 HX13 HLX HLY hk12 HTID d2 d3
      obtain ⟨hly, hlx⟩ := hlaw
      rcases hkd with hd | hd
      · have hly : (VT.mk ky by' ny sy ly fy, ey) = ((VT.mk kv bv nv sv lv fv, 0) : Rz) := hly.resolve_right (fun h => by rw [hd] at h; cases h.1)
        cases hly
        rw [sameV_refl'] at HS0
        have HS := Lib.hid HS0
        have q1 : kv = 1 := by have := (Bool.and_eq_true _ _ ▸ hd); simpa using this.1
        have q2 : (bv == (k == 22)) = true := by have := (Bool.and_eq_true _ _ ▸ hd); exact this.2
        subst q1
        clear HS0 hd hv hk
        rcases hlx with hlx | ⟨_, hlx⟩
        · cases hlx
          obtain ⟨x0, x1, x2, x3, x4, x5, x6⟩ := cells6 hz11
          obtain ⟨y0, y1, y2, y3, y4, y5, y6⟩ := cells6 hz13
          obtain ⟨z0, z1, z2, z3, z4, z5, z6⟩ := cells6 hz7
          have HP13 := Lib.hid hz13
          have HP11 := Lib.hid hz11
          clear hz11 hz13 hz7 hvb
          go_wp2_with (go_at_call 15; (with_reducible refine (HS.out).mono ?_); rintro e w3 ⟨rfl, hb3⟩; have HB3 := Lib.hid (below_call0 HBW.out HBW.out.size hb3); have hp := blk hb3 HP13.out; have hq := blk hb3 HP11.out; clear hb3 x0 x1 x2 x3 x4 x5 x6 y0 y1 y2 y3 y4 y5 y6 z0 z1 z2 z3 z4 z5 z6; obtain ⟨y0, y1, y2, y3, y4, y5, y6⟩ := cells6 hp; obtain ⟨x0, x1, x2, x3, x4, x5, x6⟩ := cells6 hq; clear hp hq)
          go_ret
          exact ⟨rfl, HB3.out⟩
        · cases hlx
          obtain ⟨x0, x1, x2, x3, x4, x5, x6⟩ := cells6 hz11
          obtain ⟨y0, y1, y2, y3, y4, y5, y6⟩ := cells6 hz13
          obtain ⟨z0, z1, z2, z3, z4, z5, z6⟩ := cells6 hz7
          have HP13 := Lib.hid hz13
          have HP11 := Lib.hid hz11
          clear hz11 hz13 hz7 hvb
          go_wp2_with (go_at_call 15; (with_reducible refine (HS.out).mono ?_); rintro e w3 ⟨rfl, hb3⟩; have HB3 := Lib.hid (below_call0 HBW.out HBW.out.size hb3); have hp := blk hb3 HP13.out; have hq := blk hb3 HP11.out; clear hb3 x0 x1 x2 x3 x4 x5 x6 y0 y1 y2 y3 y4 y5 y6 z0 z1 z2 z3 z4 z5 z6; obtain ⟨y0, y1, y2, y3, y4, y5, y6⟩ := cells6 hp; obtain ⟨x0, x1, x2, x3, x4, x5, x6⟩ := cells6 hq; clear hp hq)
          go_ret
          exact ⟨rfl, HB3.out⟩
      · have hlx : (VT.mk kx bx nx sx lx fx, ex) = ((nullV, 0) : Rz) := hlx.resolve_right (fun h => by rw [hd] at h; cases h.1)
        cases hlx
        clear hk
        rcases hv with rfl | rfl
        · skip
          clear hd
          rcases hly with hly | ⟨_, hly⟩
          · cases hly
            rw [sameV_refl'] at HS0
            have HS := Lib.hid HS0
            clear HS0
            obtain ⟨x0, x1, x2, x3, x4, x5, x6⟩ := cells6 hz11
            obtain ⟨y0, y1, y2, y3, y4, y5, y6⟩ := cells6 hz13
            obtain ⟨z0, z1, z2, z3, z4, z5, z6⟩ := cells6 hz7
            have HP13 := Lib.hid hz13
            have HP11 := Lib.hid hz11
            clear hz11 hz13 hz7 hvb
            go_wp2_with (go_at_call 15; (with_reducible refine (HS.out).mono ?_); rintro e w3 ⟨rfl, hb3⟩; have HB3 := Lib.hid (below_call0 HBW.out HBW.out.size hb3); have hp := blk hb3 HP13.out; have hq := blk hb3 HP11.out; clear hb3 x0 x1 x2 x3 x4 x5 x6 y0 y1 y2 y3 y4 y5 y6 z0 z1 z2 z3 z4 z5 z6; obtain ⟨y0, y1, y2, y3, y4, y5, y6⟩ := cells6 hp; obtain ⟨x0, x1, x2, x3, x4, x5, x6⟩ := cells6 hq; clear hp hq)
            go_ret
            exact ⟨rfl, HB3.out⟩
          · cases hly
            obtain ⟨z, hz⟩ : ∃ z, sameV nullV (VT.mk 0 bv nv sv lv fv) = z := ⟨_, rfl⟩
            rw [hz] at HS0
            have HS := Lib.hid HS0
            clear HS0 hz
            cases z
            · skip
              obtain ⟨x0, x1, x2, x3, x4, x5, x6⟩ := cells6 hz11
              obtain ⟨y0, y1, y2, y3, y4, y5, y6⟩ := cells6 hz13
              obtain ⟨z0, z1, z2, z3, z4, z5, z6⟩ := cells6 hz7
              have HP13 := Lib.hid hz13
              have HP11 := Lib.hid hz11
              clear hz11 hz13 hz7 hvb
              go_wp2_with (go_at_call 15; (with_reducible refine (HS.out).mono ?_); rintro e w3 ⟨rfl, hb3⟩; have HB3 := Lib.hid (below_call0 HBW.out HBW.out.size hb3); have hp := blk hb3 HP13.out; have hq := blk hb3 HP11.out; clear hb3 x0 x1 x2 x3 x4 x5 x6 y0 y1 y2 y3 y4 y5 y6 z0 z1 z2 z3 z4 z5 z6; obtain ⟨y0, y1, y2, y3, y4, y5, y6⟩ := cells6 hp; obtain ⟨x0, x1, x2, x3, x4, x5, x6⟩ := cells6 hq; clear hp hq)
              go_ret
              exact ⟨rfl, HB3.out⟩
            · skip
              obtain ⟨x0, x1, x2, x3, x4, x5, x6⟩ := cells6 hz11
              obtain ⟨y0, y1, y2, y3, y4, y5, y6⟩ := cells6 hz13
              obtain ⟨z0, z1, z2, z3, z4, z5, z6⟩ := cells6 hz7
              have HP13 := Lib.hid hz13
              have HP11 := Lib.hid hz11
              clear hz11 hz13 hz7 hvb
              go_wp2_with (go_at_call 15; (with_reducible refine (HS.out).mono ?_); rintro e w3 ⟨rfl, hb3⟩; have HB3 := Lib.hid (below_call0 HBW.out HBW.out.size hb3); have hp := blk hb3 HP13.out; have hq := blk hb3 HP11.out; clear hb3 x0 x1 x2 x3 x4 x5 x6 y0 y1 y2 y3 y4 y5 y6 z0 z1 z2 z3 z4 z5 z6; obtain ⟨y0, y1, y2, y3, y4, y5, y6⟩ := cells6 hp; obtain ⟨x0, x1, x2, x3, x4, x5, x6⟩ := cells6 hq; clear hp hq)
              go_ret
              exact ⟨rfl, HB3.out⟩
        · skip
          have q2 : (bv == (k == 22)) = false := by simpa using hd
          clear hd
          rcases hly with hly | ⟨_, hly⟩
          · cases hly
            rw [sameV_refl'] at HS0
            have HS := Lib.hid HS0
            clear HS0
            obtain ⟨x0, x1, x2, x3, x4, x5, x6⟩ := cells6 hz11
            obtain ⟨y0, y1, y2, y3, y4, y5, y6⟩ := cells6 hz13
            obtain ⟨z0, z1, z2, z3, z4, z5, z6⟩ := cells6 hz7
            have HP13 := Lib.hid hz13
            have HP11 := Lib.hid hz11
            clear hz11 hz13 hz7 hvb
            go_wp2_with (go_at_call 15; (with_reducible refine (HS.out).mono ?_); rintro e w3 ⟨rfl, hb3⟩; have HB3 := Lib.hid (below_call0 HBW.out HBW.out.size hb3); have hp := blk hb3 HP13.out; have hq := blk hb3 HP11.out; clear hb3 x0 x1 x2 x3 x4 x5 x6 y0 y1 y2 y3 y4 y5 y6 z0 z1 z2 z3 z4 z5 z6; obtain ⟨y0, y1, y2, y3, y4, y5, y6⟩ := cells6 hp; obtain ⟨x0, x1, x2, x3, x4, x5, x6⟩ := cells6 hq; clear hp hq)
            go_ret
            exact ⟨rfl, HB3.out⟩
          · cases hly
            obtain ⟨z, hz⟩ : ∃ z, sameV nullV (VT.mk 1 bv nv sv lv fv) = z := ⟨_, rfl⟩
            rw [hz] at HS0
            have HS := Lib.hid HS0
            clear HS0 hz
            cases z
            · skip
              obtain ⟨x0, x1, x2, x3, x4, x5, x6⟩ := cells6 hz11
              obtain ⟨y0, y1, y2, y3, y4, y5, y6⟩ := cells6 hz13
              obtain ⟨z0, z1, z2, z3, z4, z5, z6⟩ := cells6 hz7
              have HP13 := Lib.hid hz13
              have HP11 := Lib.hid hz11
              clear hz11 hz13 hz7 hvb
              go_wp2_with (go_at_call 15; (with_reducible refine (HS.out).mono ?_); rintro e w3 ⟨rfl, hb3⟩; have HB3 := Lib.hid (below_call0 HBW.out HBW.out.size hb3); have hp := blk hb3 HP13.out; have hq := blk hb3 HP11.out; clear hb3 x0 x1 x2 x3 x4 x5 x6 y0 y1 y2 y3 y4 y5 y6 z0 z1 z2 z3 z4 z5 z6; obtain ⟨y0, y1, y2, y3, y4, y5, y6⟩ := cells6 hp; obtain ⟨x0, x1, x2, x3, x4, x5, x6⟩ := cells6 hq; clear hp hq)
              go_ret
              exact ⟨rfl, HB3.out⟩
            · skip
              obtain ⟨x0, x1, x2, x3, x4, x5, x6⟩ := cells6 hz11
              obtain ⟨y0, y1, y2, y3, y4, y5, y6⟩ := cells6 hz13
              obtain ⟨z0, z1, z2, z3, z4, z5, z6⟩ := cells6 hz7
              have HP13 := Lib.hid hz13
              have HP11 := Lib.hid hz11
              clear hz11 hz13 hz7 hvb
              go_wp2_with (go_at_call 15; (with_reducible refine (HS.out).mono ?_); rintro e w3 ⟨rfl, hb3⟩; have HB3 := Lib.hid (below_call0 HBW.out HBW.out.size hb3); have hp := blk hb3 HP13.out; have hq := blk hb3 HP11.out; clear hb3 x0 x1 x2 x3 x4 x5 x6 y0 y1 y2 y3 y4 y5 y6 z0 z1 z2 z3 z4 z5 z6; obtain ⟨y0, y1, y2, y3, y4, y5, y6⟩ := cells6 hp; obtain ⟨x0, x1, x2, x3, x4, x5, x6⟩ := cells6 hq; clear hp hq)
              go_ret
              exact ⟨rfl, HB3.out⟩
end Go.Proofs.YtgjgllfeinjpnaaGreatDoor
