import Derived.Test.YtgjgllfeinjpnaaGreatDoorKNe
/- codicillaw11.ExprNumbers: the walk (printed by gennum.py). -/
namespace Go.Proofs.YtgjgllfeinjpnaaGreatDoor
open Go.RowKit
set_option linter.unusedSimpArgs false
set_option linter.unusedVariables false
set_option maxHeartbeats 4000000
set_option maxRecDepth 100000
theorem numbers_calls (a b : Int) (w : World) (hL : Laid w) (ha : I64 a) (hb : I64 b) : Calls Tryz.prog 6 #[.int .i64 a, .int .i64 b] w fun e w' => e = .returned (.bool true) ∧ Below w.heap.size w w' := by
  have HLD := Lib.hid hL
  have HIA := Lib.hid ha
  have HIB := Lib.hid hb
  have HLV := Lib.hid (lives_calls w hL)
  clear hL ha hb
  go_enter Tryz.func6, Tryz.ntmps6
  go_upto_region 3 with (go_at_call 9; (with_reducible refine (HLV.out).mono ?_); rintro e w1 ⟨rfl, hb1⟩; have HB1 := Lib.hid hb1; clear hb1)
  go_upto_region 4 with (fail)
  have hb2 := two_allocs (w := w1) (.cells #[.string nA, .int .u8 2, .bool false, .int .i64 a, .string ⟨#[]⟩, .slice none 0 0, .slice none 0 0, .string nB, .int .u8 2, .bool false, .int .i64 b, .string ⟨#[]⟩, .slice none 0 0, .slice none 0 0] 29) (.cells #[.int .u8 6, .bool false, .int .i64 0, .string ⟨#[]⟩, .slice none 0 0, .slice (some ⟨w1.heap.size, 0, none⟩) 2 2] 26)
  have hr2 : RowAt2 w1.heap.size (intV a) (intV b) ((w1.alloc (.cells #[.string nA, .int .u8 2, .bool false, .int .i64 a, .string ⟨#[]⟩, .slice none 0 0, .slice none 0 0, .string nB, .int .u8 2, .bool false, .int .i64 b, .string ⟨#[]⟩, .slice none 0 0, .slice none 0 0] 29)).alloc (.cells #[.int .u8 6, .bool false, .int .i64 0, .string ⟨#[]⟩, .slice none 0 0, .slice (some ⟨w1.heap.size, 0, none⟩) 2 2] 26)) (.int .u8 2) (.bool false) (.int .i64 a) (.string ⟨#[]⟩) (.slice none 0 0) (.slice none 0 0) (.int .u8 2) (.bool false) (.int .i64 b) (.string ⟨#[]⟩) (.slice none 0 0) (.slice none 0 0) := ⟨blk_alloc (heap_last _ _), by simpa using heap_last (w1.alloc (.cells #[.string nA, .int .u8 2, .bool false, .int .i64 a, .string ⟨#[]⟩, .slice none 0 0, .slice none 0 0, .string nB, .int .u8 2, .bool false, .int .i64 b, .string ⟨#[]⟩, .slice none 0 0, .slice none 0 0] 29)) (.cells #[.int .u8 6, .bool false, .int .i64 0, .string ⟨#[]⟩, .slice none 0 0, .slice (some ⟨w1.heap.size, 0, none⟩) 2 2] 26), rv_int a HIA.out _, rv_int b HIB.out _⟩
  generalize (w1.alloc (.cells #[.string nA, .int .u8 2, .bool false, .int .i64 a, .string ⟨#[]⟩, .slice none 0 0, .slice none 0 0, .string nB, .int .u8 2, .bool false, .int .i64 b, .string ⟨#[]⟩, .slice none 0 0, .slice none 0 0] 29)).alloc (.cells #[.int .u8 6, .bool false, .int .i64 0, .string ⟨#[]⟩, .slice none 0 0, .slice (some ⟨w1.heap.size, 0, none⟩) 2 2] 26) = W at *
  have HBW := Lib.hid (below_call0 HB1.out HB1.out.size hb2)
  have HROW := Lib.hid hr2
  clear hb2 hr2 HB1 HLV
  obtain ⟨⟨⟨k1, b1, n1, s1, l1, f1⟩, e1⟩, hr1⟩ : ∃ r : Rz, numRz 12 a b = r := ⟨_, rfl⟩
  have HOF := Lib.hid (fun (w' : World) (hb : Below W.heap.size W w') => of_calls tn1 (so 12) w' (HLD.out.below (below_call0 HBW.out HBW.out.size hb)) (by decide) conn1 (goodB_all goodn1).2.2.2)
  have hev0 := fun (w' : World) (A : Option Addr) (c : Nat) (hb : Below W.heap.size W w') (hr : RowS w' (so 12) A) => eval_calls (so 12) A c (row2 (intV a) (intV b)) _ _ _ _ _ _ w' (goodB_all goodn1).2.2.1 (goodB_all goodn1).1 (goodB_all goodn1).2.1 (HLD.out.below (below_call0 HBW.out HBW.out.size hb)) hr (HROW.out.keep hb).rv
  rw [evaln1, hr1] at hev0
  have HEV := Lib.hid hev0
  clear hev0
  obtain ⟨ln, hln⟩ : ∃ x, ((so 12)).length = x := ⟨_, rfl⟩
  rw [hln] at HOF HEV
  unfold tn1 at HOF
  generalize (so 12) = sts at HOF HEV
  clear hln
  have HDA := Lib.hid (below_new (w := W) zeroO)
  have HDZ := Lib.hid (heap_last W zeroO)
  obtain ⟨y0, y1, y2, y3, y4, y5, y6⟩ := cells6 HROW.out.2.1
  obtain ⟨x0, x1, x2, x3, x4, x5, x6⟩ := cells6 (blk_alloc (o := zeroO) HROW.out.2.1)
  go_cut [6, 7] (fun s6 s7 wx => ∃ g, s6 = .pointer (some ⟨g, 0, none⟩) ∧ s7 = .int .i64 e1 ∧ Cut W wx g (.mk k1 b1 n1 s1 l1 f1))
  case first =>
    go_region_with (first | (go_at_call 12; first | ((with_reducible refine (HOF.out _ (Below.drew (Below.refl _ _))).mono ?_); rintro e w5 ⟨A5, c5, rfl, hr5, hc5, hb5⟩; have HB5 := Lib.hid (below_call0 (Below.drew (Below.refl W.heap.size W)) (Nat.le_refl _) hb5); have HR5 := Lib.hid hr5; clear hr5 hb5 y0 y1 y2 y3 y4 y5 y6 x0 x1 x2 x3 x4 x5 x6; obtain ⟨y0, y1, y2, y3, y4, y5, y6⟩ := cells6 (HROW.out.keep HB5.out).2.1; obtain ⟨x0, x1, x2, x3, x4, x5, x6⟩ := cells6 (blk_alloc (o := zeroO) (HROW.out.keep HB5.out).2.1)) | ((with_reducible refine (HOF.out _ (Below.drew HDA.out)).mono ?_); rintro e w5 ⟨A5, c5, rfl, hr5, hc5, hb5⟩; have HB5 := Lib.hid (below_call0 (Below.drew HDA.out) HDA.out.size hb5); have HZ5 := Lib.hid (blk (W := (W.alloc zeroO).drew) hb5 HDZ.out); have HR5 := Lib.hid hr5; clear hr5 hb5 y0 y1 y2 y3 y4 y5 y6 x0 x1 x2 x3 x4 x5 x6; obtain ⟨y0, y1, y2, y3, y4, y5, y6⟩ := cells6 (HROW.out.keep HB5.out).2.1; obtain ⟨x0, x1, x2, x3, x4, x5, x6⟩ := cells6 (blk_alloc (o := zeroO) (HROW.out.keep HB5.out).2.1))) | (go_at_call 13; first | ((with_reducible refine (HEV.out w5 A5 c5 HB5.out HR5.out).mono ?_); intro e w8 hev; obtain ⟨hb8, a1, c1, a2, c2, rfl, hv8⟩ := hev.parts; have HB8 := Lib.hid hb8; have HV8 := Lib.hid hv8; clear hev hb8 hv8; first | (have hz8 := blk HB8.out HZ5.out; obtain ⟨z0, z1, z2, z3, z4, z5, z6⟩ := cells6 hz8; clear hz8) | skip) | ((with_reducible refine (HEV.out (w5.alloc zeroO) A5 c5 (below_call0 HB5.out HB5.out.size (below_new _)) (RowS.keep HR5.out (below_new _))).mono ?_); intro e w8 hev; obtain ⟨hb8, a1, c1, a2, c2, rfl, hv8⟩ := hev.parts; have HB8 := Lib.hid hb8; have HV8 := Lib.hid hv8; clear hev hb8 hv8; obtain ⟨z0, z1, z2, z3, z4, z5, z6⟩ := cells6 (blk HB8.out (heap_last w5 zeroO)))))
    all_goals (go_wp2_with fail)
    all_goals go_meet
    all_goals (refine ⟨_, rfl, rfl, ?_⟩)
    all_goals first | (have hz := blk HB8.out HZ5.out; have hc := cutA (below_call0 HB5.out HB5.out.size HB8.out) hz HV8.out (lt_of_block HZ5.out); with_reducible exact hc) | (have hc := cutD (below_call0 HB5.out HB5.out.size HB8.out) HV8.out HB5.out.size; with_reducible exact hc) | (have hc := cutB HB5.out HB8.out HV8.out; with_reducible exact hc)
  case rest =>
    obtain ⟨g6, rfl, rfl, hcd⟩ := hcut
    have hrow := HROW.out.keep hcd.1
    have hbw := below_call0 HBW.out HBW.out.size hcd.1
    have HX6 := Lib.hid hcd.2
    have HR1 := Lib.hid hr1
    clear HROW HBW HOF HEV HDA HDZ y0 y1 y2 y3 y4 y5 y6 x0 x1 x2 x3 x4 x5 x6 hcd hr1
    have HROW := Lib.hid hrow
    have HBW := Lib.hid hbw
    clear hrow hbw
    obtain ⟨W6, hW⟩ : ∃ x, x = wc := ⟨_, rfl⟩
    subst hW
    go_upto_region 5 with (fail)
    obtain ⟨⟨⟨k2, b2, n2, s2, l2, f2⟩, e2⟩, hr2⟩ : ∃ r : Rz, sumRz a b = r := ⟨_, rfl⟩
    have HOF := Lib.hid (fun (w' : World) (hb : Below W6.heap.size W6 w') => of_calls tn2 sn2 w' (HLD.out.below (below_call0 HBW.out HBW.out.size hb)) (by decide) conn2 (goodB_all goodn2).2.2.2)
    have hev0 := fun (w' : World) (A : Option Addr) (c : Nat) (hb : Below W6.heap.size W6 w') (hr : RowS w' sn2 A) => eval_calls sn2 A c (row2 (intV a) (intV b)) _ _ _ _ _ _ w' (goodB_all goodn2).2.2.1 (goodB_all goodn2).1 (goodB_all goodn2).2.1 (HLD.out.below (below_call0 HBW.out HBW.out.size hb)) hr (HROW.out.keep hb).rv
    rw [evalnS a b HIA.out, hr2] at hev0
    have HEV := Lib.hid hev0
    clear hev0
    obtain ⟨ln, hln⟩ : ∃ x, (sn2).length = x := ⟨_, rfl⟩
    rw [hln] at HOF HEV
    unfold tn2 at HOF
    generalize sn2 = sts at HOF HEV
    clear hln
    have HDA := Lib.hid (below_new (w := W6) zeroO)
    have HDZ := Lib.hid (heap_last W6 zeroO)
    obtain ⟨y0, y1, y2, y3, y4, y5, y6⟩ := cells6 HROW.out.2.1
    obtain ⟨x0, x1, x2, x3, x4, x5, x6⟩ := cells6 (blk_alloc (o := zeroO) HROW.out.2.1)
    go_cut [8, 9] (fun s8 s9 wx => ∃ g, s8 = .pointer (some ⟨g, 0, none⟩) ∧ s9 = .int .i64 e2 ∧ Cut W6 wx g (.mk k2 b2 n2 s2 l2 f2))
    case first =>
      go_region_with (first | (go_at_call 12; first | ((with_reducible refine (HOF.out _ (Below.drew (Below.refl _ _))).mono ?_); rintro e w5 ⟨A5, c5, rfl, hr5, hc5, hb5⟩; have HB5 := Lib.hid (below_call0 (Below.drew (Below.refl W6.heap.size W6)) (Nat.le_refl _) hb5); have HR5 := Lib.hid hr5; clear hr5 hb5 y0 y1 y2 y3 y4 y5 y6 x0 x1 x2 x3 x4 x5 x6; obtain ⟨y0, y1, y2, y3, y4, y5, y6⟩ := cells6 (HROW.out.keep HB5.out).2.1; obtain ⟨x0, x1, x2, x3, x4, x5, x6⟩ := cells6 (blk_alloc (o := zeroO) (HROW.out.keep HB5.out).2.1)) | ((with_reducible refine (HOF.out _ (Below.drew HDA.out)).mono ?_); rintro e w5 ⟨A5, c5, rfl, hr5, hc5, hb5⟩; have HB5 := Lib.hid (below_call0 (Below.drew HDA.out) HDA.out.size hb5); have HZ5 := Lib.hid (blk (W := (W6.alloc zeroO).drew) hb5 HDZ.out); have HR5 := Lib.hid hr5; clear hr5 hb5 y0 y1 y2 y3 y4 y5 y6 x0 x1 x2 x3 x4 x5 x6; obtain ⟨y0, y1, y2, y3, y4, y5, y6⟩ := cells6 (HROW.out.keep HB5.out).2.1; obtain ⟨x0, x1, x2, x3, x4, x5, x6⟩ := cells6 (blk_alloc (o := zeroO) (HROW.out.keep HB5.out).2.1))) | (go_at_call 13; first | ((with_reducible refine (HEV.out w5 A5 c5 HB5.out HR5.out).mono ?_); intro e w8 hev; obtain ⟨hb8, a1, c1, a2, c2, rfl, hv8⟩ := hev.parts; have HB8 := Lib.hid hb8; have HV8 := Lib.hid hv8; clear hev hb8 hv8; first | (have hz8 := blk HB8.out HZ5.out; obtain ⟨z0, z1, z2, z3, z4, z5, z6⟩ := cells6 hz8; clear hz8) | skip) | ((with_reducible refine (HEV.out (w5.alloc zeroO) A5 c5 (below_call0 HB5.out HB5.out.size (below_new _)) (RowS.keep HR5.out (below_new _))).mono ?_); intro e w8 hev; obtain ⟨hb8, a1, c1, a2, c2, rfl, hv8⟩ := hev.parts; have HB8 := Lib.hid hb8; have HV8 := Lib.hid hv8; clear hev hb8 hv8; obtain ⟨z0, z1, z2, z3, z4, z5, z6⟩ := cells6 (blk HB8.out (heap_last w5 zeroO)))))
      all_goals (go_wp2_with fail)
      all_goals go_meet
      all_goals (refine ⟨_, rfl, rfl, ?_⟩)
      all_goals first | (have hz := blk HB8.out HZ5.out; have hc := cutA (below_call0 HB5.out HB5.out.size HB8.out) hz HV8.out (lt_of_block HZ5.out); with_reducible exact hc) | (have hc := cutD (below_call0 HB5.out HB5.out.size HB8.out) HV8.out HB5.out.size; with_reducible exact hc) | (have hc := cutB HB5.out HB8.out HV8.out; with_reducible exact hc)
    case rest =>
      obtain ⟨g8, rfl, rfl, hcd⟩ := hcut
      have hrow := HROW.out.keep hcd.1
      have hbw := below_call0 HBW.out HBW.out.size hcd.1
      have hx6 := HX6.out.keep hcd.1
      have HX8 := Lib.hid hcd.2
      have HR2 := Lib.hid hr2
      clear HROW HBW HOF HEV HDA HDZ y0 y1 y2 y3 y4 y5 y6 x0 x1 x2 x3 x4 x5 x6 hcd hr2 HX6
      have HROW := Lib.hid hrow
      have HBW := Lib.hid hbw
      have HX6 := Lib.hid hx6
      clear hrow hbw hx6
      obtain ⟨W8, hW⟩ : ∃ x, x = wc := ⟨_, rfl⟩
      subst hW
      go_upto_region 6 with (fail)
      go_cut [70] (fun c wx => c = .bool false ∧ wx = W8)
      case first =>
        have h1 := HR1.out
        have h2 := HR2.out
        by_cases hf : fitsB (a + b) = true
        · rw [num_add hf] at h1
          rw [sum_add hf] at h2
          cases h1
          cases h2
          obtain ⟨_, _, _, _, hz6, _⟩ := HX6.out.cells
          obtain ⟨p0, p1, p2, p3, p4, p5, p6⟩ := cells6 hz6
          clear hz6
          obtain ⟨_, _, _, _, hz8, _⟩ := HX8.out.cells
          obtain ⟨q0, q1, q2, q3, q4, q5, q6⟩ := cells6 hz8
          clear hz8
          have hw := fits_wrap hf
          have hw2 := fits_wrap64 hf
          clear HR1 HR2 HX6 HX8 HROW HBW hf
          go_wp2_with fail
          go_meet
          exact ⟨rfl, rfl⟩
        · rw [num_add_no hf] at h1
          rw [sum_add_no hf] at h2
          cases h1
          cases h2
          clear HR1 HR2 HX6 HX8 HROW HBW hf
          go_wp2_with fail
          go_meet
          exact ⟨rfl, rfl⟩
      case rest =>
        obtain ⟨rfl, hwc⟩ := hcut
        rw [hwc]
        clear hwc
        go_upto_region 8 with (fail)
        exact numTail8 HLD HIA HIB HBW HROW HR1 (by assumption)
end Go.Proofs.YtgjgllfeinjpnaaGreatDoor
