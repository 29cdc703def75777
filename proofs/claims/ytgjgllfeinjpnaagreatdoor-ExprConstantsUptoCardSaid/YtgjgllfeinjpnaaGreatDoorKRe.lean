import Derived.Test.YtgjgllfeinjpnaaGreatDoorKRc
/- codicillaw11.lives (printed by genlives.py). -/
namespace Go.Proofs.YtgjgllfeinjpnaaGreatDoor
open Go.RowKit
set_option linter.unusedSimpArgs false
set_option linter.unusedVariables false
set_option maxHeartbeats 4000000
set_option maxRecDepth 100000
theorem lives_calls (w : World) (hL : Laid w) : Calls Tryz.prog 9 #[] w fun e w' => e = .returned (.bool true) ∧ Below w.heap.size w w' := by
  have HLD := Lib.hid hL
  clear hL
  go_enter Tryz.func9, Tryz.ntmps9
  go_upto_region 2 with (fail)
  have hR : RowAt w.heap.size ((w.alloc (.cells #[.string nA, .int .u8 2, .bool false, .int .i64 1, .string ⟨#[]⟩, .slice none 0 0, .slice none 0 0] 29)).alloc (.cells #[.int .u8 6, .bool false, .int .i64 0, .string ⟨#[]⟩, .slice none 0 0, .slice (some ⟨w.heap.size, 0, none⟩) 1 1] 26)) := ⟨blk_alloc (heap_last _ _), by simpa using heap_last (w.alloc (.cells #[.string nA, .int .u8 2, .bool false, .int .i64 1, .string ⟨#[]⟩, .slice none 0 0, .slice none 0 0] 29)) (.cells #[.int .u8 6, .bool false, .int .i64 0, .string ⟨#[]⟩, .slice none 0 0, .slice (some ⟨w.heap.size, 0, none⟩) 1 1] 26)⟩
  have hB := two_allocs (w := w) (.cells #[.string nA, .int .u8 2, .bool false, .int .i64 1, .string ⟨#[]⟩, .slice none 0 0, .slice none 0 0] 29) (.cells #[.int .u8 6, .bool false, .int .i64 0, .string ⟨#[]⟩, .slice none 0 0, .slice (some ⟨w.heap.size, 0, none⟩) 1 1] 26)
  generalize (w.alloc (.cells #[.string nA, .int .u8 2, .bool false, .int .i64 1, .string ⟨#[]⟩, .slice none 0 0, .slice none 0 0] 29)).alloc (.cells #[.int .u8 6, .bool false, .int .i64 0, .string ⟨#[]⟩, .slice none 0 0, .slice (some ⟨w.heap.size, 0, none⟩) 1 1] 26) = W at *
  have HROW := Lib.hid hR
  have HBW := Lib.hid hB
  clear hR hB
  have HOF := Lib.hid (fun (w' : World) (hb : Below W.heap.size W w') => of_calls tx1 st1 w' (HLD.out.below (below_call0 HBW.out HBW.out.size hb)) (by decide) cond1 (goodB_all good1).2.2.2)
  have hev0 := fun (w' : World) (A : Option Addr) (c : Nat) (hb : Below W.heap.size W w') (hr : RowS w' st1 A) => eval_calls st1 A c row1 _ _ _ _ _ _ w' (goodB_all good1).2.2.1 (goodB_all good1).1 (goodB_all good1).2.1 (HLD.out.below (below_call0 HBW.out HBW.out.size hb)) hr (HROW.out.keep hb).rv
  rw [eval1] at hev0
  have HEV := Lib.hid hev0
  clear hev0
  obtain ⟨ln, hln⟩ : ∃ x, (st1).length = x := ⟨_, rfl⟩
  rw [hln] at HOF HEV
  unfold tx1 at HOF
  generalize st1 = sts at HOF HEV
  clear hln
  have HDA := Lib.hid (below_new (w := W) zeroO)
  have HDZ := Lib.hid (heap_last W zeroO)
  obtain ⟨y0, y1, y2, y3, y4, y5, y6⟩ := cells6 HROW.out.2
  obtain ⟨x0, x1, x2, x3, x4, x5, x6⟩ := cells6 (blk_alloc (o := zeroO) HROW.out.2)
  go_cut [2, 3] (fun s2 s3 wx => ∃ g, s2 = .pointer (some ⟨g, 0, none⟩) ∧ s3 = .int .i64 0 ∧ Cut W wx g (truthV true))
  case first =>
    go_region_with (first | (go_at_call 12; first | ((with_reducible refine (HOF.out _ (Below.drew (Below.refl _ _))).mono ?_); rintro e w5 ⟨A5, c5, rfl, hr5, hc5, hb5⟩; have HB5 := Lib.hid (below_call0 (Below.drew (Below.refl W.heap.size W)) (Nat.le_refl _) hb5); have HR5 := Lib.hid hr5; clear hr5 hb5 y0 y1 y2 y3 y4 y5 y6 x0 x1 x2 x3 x4 x5 x6; obtain ⟨y0, y1, y2, y3, y4, y5, y6⟩ := cells6 (HROW.out.keep HB5.out).2; obtain ⟨x0, x1, x2, x3, x4, x5, x6⟩ := cells6 (blk_alloc (o := zeroO) (HROW.out.keep HB5.out).2)) | ((with_reducible refine (HOF.out _ (Below.drew HDA.out)).mono ?_); rintro e w5 ⟨A5, c5, rfl, hr5, hc5, hb5⟩; have HB5 := Lib.hid (below_call0 (Below.drew HDA.out) HDA.out.size hb5); have HZ5 := Lib.hid (blk (W := (W.alloc zeroO).drew) hb5 HDZ.out); have HR5 := Lib.hid hr5; clear hr5 hb5 y0 y1 y2 y3 y4 y5 y6 x0 x1 x2 x3 x4 x5 x6; obtain ⟨y0, y1, y2, y3, y4, y5, y6⟩ := cells6 (HROW.out.keep HB5.out).2; obtain ⟨x0, x1, x2, x3, x4, x5, x6⟩ := cells6 (blk_alloc (o := zeroO) (HROW.out.keep HB5.out).2))) | (go_at_call 13; first | ((with_reducible refine (HEV.out w5 A5 c5 HB5.out HR5.out).mono ?_); intro e w8 hev; obtain ⟨hb8, a1, c1, a2, c2, rfl, hv8⟩ := hev.parts; have HB8 := Lib.hid hb8; have HV8 := Lib.hid hv8; clear hev hb8 hv8; first | (have hz8 := blk HB8.out HZ5.out; obtain ⟨z0, z1, z2, z3, z4, z5, z6⟩ := cells6 hz8; clear hz8) | skip) | ((with_reducible refine (HEV.out (w5.alloc zeroO) A5 c5 (below_call0 HB5.out HB5.out.size (below_new _)) (RowS.keep HR5.out (below_new _))).mono ?_); intro e w8 hev; obtain ⟨hb8, a1, c1, a2, c2, rfl, hv8⟩ := hev.parts; have HB8 := Lib.hid hb8; have HV8 := Lib.hid hv8; clear hev hb8 hv8; obtain ⟨z0, z1, z2, z3, z4, z5, z6⟩ := cells6 (blk HB8.out (heap_last w5 zeroO)))))
    all_goals (go_wp2_with fail)
    all_goals go_meet
    all_goals (refine ⟨_, rfl, rfl, ?_⟩)
    all_goals first | (have hz := blk HB8.out HZ5.out; have hc := cutA (below_call0 HB5.out HB5.out.size HB8.out) hz HV8.out (lt_of_block HZ5.out); with_reducible exact hc) | (have hc := cutD (below_call0 HB5.out HB5.out.size HB8.out) HV8.out HB5.out.size; with_reducible exact hc) | (have hc := cutB HB5.out HB8.out HV8.out; with_reducible exact hc)
  case rest =>
    obtain ⟨g2, rfl, rfl, hcd⟩ := hcut
    have hrow := HROW.out.keep hcd.1
    have hbw := below_call0 HBW.out HBW.out.size hcd.1
    have HX2 := Lib.hid hcd.2
    clear HROW HBW HOF HEV HDA HDZ y0 y1 y2 y3 y4 y5 y6 x0 x1 x2 x3 x4 x5 x6 hcd
    have HROW := Lib.hid hrow
    have HBW := Lib.hid hbw
    clear hrow hbw
    obtain ⟨W2, hW⟩ : ∃ x, x = wc := ⟨_, rfl⟩
    subst hW
    go_upto_region 3 with (fail)
    have HOF := Lib.hid (fun (w' : World) (hb : Below W2.heap.size W2 w') => of_calls tx2 st2 w' (HLD.out.below (below_call0 HBW.out HBW.out.size hb)) (by decide) cond2 (goodB_all good2).2.2.2)
    have hev0 := fun (w' : World) (A : Option Addr) (c : Nat) (hb : Below W2.heap.size W2 w') (hr : RowS w' st2 A) => eval_calls st2 A c row1 _ _ _ _ _ _ w' (goodB_all good2).2.2.1 (goodB_all good2).1 (goodB_all good2).2.1 (HLD.out.below (below_call0 HBW.out HBW.out.size hb)) hr (HROW.out.keep hb).rv
    rw [eval2] at hev0
    have HEV := Lib.hid hev0
    clear hev0
    obtain ⟨ln, hln⟩ : ∃ x, (st2).length = x := ⟨_, rfl⟩
    rw [hln] at HOF HEV
    unfold tx2 at HOF
    generalize st2 = sts at HOF HEV
    clear hln
    have HDA := Lib.hid (below_new (w := W2) zeroO)
    have HDZ := Lib.hid (heap_last W2 zeroO)
    obtain ⟨y0, y1, y2, y3, y4, y5, y6⟩ := cells6 HROW.out.2
    obtain ⟨x0, x1, x2, x3, x4, x5, x6⟩ := cells6 (blk_alloc (o := zeroO) HROW.out.2)
    go_cut [4, 5] (fun s4 s5 wx => ∃ g, s4 = .pointer (some ⟨g, 0, none⟩) ∧ s5 = .int .i64 0 ∧ Cut W2 wx g nullV)
    case first =>
      go_region_with (first | (go_at_call 12; first | ((with_reducible refine (HOF.out _ (Below.drew (Below.refl _ _))).mono ?_); rintro e w5 ⟨A5, c5, rfl, hr5, hc5, hb5⟩; have HB5 := Lib.hid (below_call0 (Below.drew (Below.refl W2.heap.size W2)) (Nat.le_refl _) hb5); have HR5 := Lib.hid hr5; clear hr5 hb5 y0 y1 y2 y3 y4 y5 y6 x0 x1 x2 x3 x4 x5 x6; obtain ⟨y0, y1, y2, y3, y4, y5, y6⟩ := cells6 (HROW.out.keep HB5.out).2; obtain ⟨x0, x1, x2, x3, x4, x5, x6⟩ := cells6 (blk_alloc (o := zeroO) (HROW.out.keep HB5.out).2)) | ((with_reducible refine (HOF.out _ (Below.drew HDA.out)).mono ?_); rintro e w5 ⟨A5, c5, rfl, hr5, hc5, hb5⟩; have HB5 := Lib.hid (below_call0 (Below.drew HDA.out) HDA.out.size hb5); have HZ5 := Lib.hid (blk (W := (W2.alloc zeroO).drew) hb5 HDZ.out); have HR5 := Lib.hid hr5; clear hr5 hb5 y0 y1 y2 y3 y4 y5 y6 x0 x1 x2 x3 x4 x5 x6; obtain ⟨y0, y1, y2, y3, y4, y5, y6⟩ := cells6 (HROW.out.keep HB5.out).2; obtain ⟨x0, x1, x2, x3, x4, x5, x6⟩ := cells6 (blk_alloc (o := zeroO) (HROW.out.keep HB5.out).2))) | (go_at_call 13; first | ((with_reducible refine (HEV.out w5 A5 c5 HB5.out HR5.out).mono ?_); intro e w8 hev; obtain ⟨hb8, a1, c1, a2, c2, rfl, hv8⟩ := hev.parts; have HB8 := Lib.hid hb8; have HV8 := Lib.hid hv8; clear hev hb8 hv8; first | (have hz8 := blk HB8.out HZ5.out; obtain ⟨z0, z1, z2, z3, z4, z5, z6⟩ := cells6 hz8; clear hz8) | skip) | ((with_reducible refine (HEV.out (w5.alloc zeroO) A5 c5 (below_call0 HB5.out HB5.out.size (below_new _)) (RowS.keep HR5.out (below_new _))).mono ?_); intro e w8 hev; obtain ⟨hb8, a1, c1, a2, c2, rfl, hv8⟩ := hev.parts; have HB8 := Lib.hid hb8; have HV8 := Lib.hid hv8; clear hev hb8 hv8; obtain ⟨z0, z1, z2, z3, z4, z5, z6⟩ := cells6 (blk HB8.out (heap_last w5 zeroO)))))
      all_goals (go_wp2_with fail)
      all_goals go_meet
      all_goals (refine ⟨_, rfl, rfl, ?_⟩)
      all_goals first | (have hz := blk HB8.out HZ5.out; have hc := cutA (below_call0 HB5.out HB5.out.size HB8.out) hz HV8.out (lt_of_block HZ5.out); with_reducible exact hc) | (have hc := cutD (below_call0 HB5.out HB5.out.size HB8.out) HV8.out HB5.out.size; with_reducible exact hc) | (have hc := cutB HB5.out HB8.out HV8.out; with_reducible exact hc)
    case rest =>
      obtain ⟨g4, rfl, rfl, hcd⟩ := hcut
      have hrow := HROW.out.keep hcd.1
      have hbw := below_call0 HBW.out HBW.out.size hcd.1
      have hx2 := HX2.out.keep hcd.1
      have HX4 := Lib.hid hcd.2
      clear HROW HBW HOF HEV HDA HDZ y0 y1 y2 y3 y4 y5 y6 x0 x1 x2 x3 x4 x5 x6 hcd HX2
      have HROW := Lib.hid hrow
      have HBW := Lib.hid hbw
      have HX2 := Lib.hid hx2
      clear hrow hbw hx2
      obtain ⟨W4, hW⟩ : ∃ x, x = wc := ⟨_, rfl⟩
      subst hW
      go_upto_region 4 with (fail)
      have HOF := Lib.hid (fun (w' : World) (hb : Below W4.heap.size W4 w') => of_calls tx3 st3 w' (HLD.out.below (below_call0 HBW.out HBW.out.size hb)) (by decide) cond3 (goodB_all good3).2.2.2)
      have hev0 := fun (w' : World) (A : Option Addr) (c : Nat) (hb : Below W4.heap.size W4 w') (hr : RowS w' st3 A) => eval_calls st3 A c row1 _ _ _ _ _ _ w' (goodB_all good3).2.2.1 (goodB_all good3).1 (goodB_all good3).2.1 (HLD.out.below (below_call0 HBW.out HBW.out.size hb)) hr (HROW.out.keep hb).rv
      rw [eval3] at hev0
      have HEV := Lib.hid hev0
      clear hev0
      obtain ⟨ln, hln⟩ : ∃ x, (st3).length = x := ⟨_, rfl⟩
      rw [hln] at HOF HEV
      unfold tx3 at HOF
      generalize st3 = sts at HOF HEV
      clear hln
      have HDA := Lib.hid (below_new (w := W4) zeroO)
      have HDZ := Lib.hid (heap_last W4 zeroO)
      obtain ⟨y0, y1, y2, y3, y4, y5, y6⟩ := cells6 HROW.out.2
      obtain ⟨x0, x1, x2, x3, x4, x5, x6⟩ := cells6 (blk_alloc (o := zeroO) HROW.out.2)
      go_cut [6, 7] (fun s6 s7 wx => ∃ g, s6 = .pointer (some ⟨g, 0, none⟩) ∧ s7 = .int .i64 5 ∧ Cut W4 wx g nullV)
      case first =>
        go_region_with (first | (go_at_call 12; first | ((with_reducible refine (HOF.out _ (Below.drew (Below.refl _ _))).mono ?_); rintro e w5 ⟨A5, c5, rfl, hr5, hc5, hb5⟩; have HB5 := Lib.hid (below_call0 (Below.drew (Below.refl W4.heap.size W4)) (Nat.le_refl _) hb5); have HR5 := Lib.hid hr5; clear hr5 hb5 y0 y1 y2 y3 y4 y5 y6 x0 x1 x2 x3 x4 x5 x6; obtain ⟨y0, y1, y2, y3, y4, y5, y6⟩ := cells6 (HROW.out.keep HB5.out).2; obtain ⟨x0, x1, x2, x3, x4, x5, x6⟩ := cells6 (blk_alloc (o := zeroO) (HROW.out.keep HB5.out).2)) | ((with_reducible refine (HOF.out _ (Below.drew HDA.out)).mono ?_); rintro e w5 ⟨A5, c5, rfl, hr5, hc5, hb5⟩; have HB5 := Lib.hid (below_call0 (Below.drew HDA.out) HDA.out.size hb5); have HZ5 := Lib.hid (blk (W := (W4.alloc zeroO).drew) hb5 HDZ.out); have HR5 := Lib.hid hr5; clear hr5 hb5 y0 y1 y2 y3 y4 y5 y6 x0 x1 x2 x3 x4 x5 x6; obtain ⟨y0, y1, y2, y3, y4, y5, y6⟩ := cells6 (HROW.out.keep HB5.out).2; obtain ⟨x0, x1, x2, x3, x4, x5, x6⟩ := cells6 (blk_alloc (o := zeroO) (HROW.out.keep HB5.out).2))) | (go_at_call 13; first | ((with_reducible refine (HEV.out w5 A5 c5 HB5.out HR5.out).mono ?_); intro e w8 hev; obtain ⟨hb8, a1, c1, a2, c2, rfl, hv8⟩ := hev.parts; have HB8 := Lib.hid hb8; have HV8 := Lib.hid hv8; clear hev hb8 hv8; first | (have hz8 := blk HB8.out HZ5.out; obtain ⟨z0, z1, z2, z3, z4, z5, z6⟩ := cells6 hz8; clear hz8) | skip) | ((with_reducible refine (HEV.out (w5.alloc zeroO) A5 c5 (below_call0 HB5.out HB5.out.size (below_new _)) (RowS.keep HR5.out (below_new _))).mono ?_); intro e w8 hev; obtain ⟨hb8, a1, c1, a2, c2, rfl, hv8⟩ := hev.parts; have HB8 := Lib.hid hb8; have HV8 := Lib.hid hv8; clear hev hb8 hv8; obtain ⟨z0, z1, z2, z3, z4, z5, z6⟩ := cells6 (blk HB8.out (heap_last w5 zeroO)))))
        all_goals (go_wp2_with fail)
        all_goals go_meet
        all_goals (refine ⟨_, rfl, rfl, ?_⟩)
        all_goals first | (have hz := blk HB8.out HZ5.out; have hc := cutA (below_call0 HB5.out HB5.out.size HB8.out) hz HV8.out (lt_of_block HZ5.out); with_reducible exact hc) | (have hc := cutD (below_call0 HB5.out HB5.out.size HB8.out) HV8.out HB5.out.size; with_reducible exact hc) | (have hc := cutB HB5.out HB8.out HV8.out; with_reducible exact hc)
      case rest =>
        obtain ⟨g6, rfl, rfl, hcd⟩ := hcut
        have hrow := HROW.out.keep hcd.1
        have hbw := below_call0 HBW.out HBW.out.size hcd.1
        have hx2 := HX2.out.keep hcd.1
        have hx4 := HX4.out.keep hcd.1
        have HX6 := Lib.hid hcd.2
        clear HROW HBW HOF HEV HDA HDZ y0 y1 y2 y3 y4 y5 y6 x0 x1 x2 x3 x4 x5 x6 hcd HX2 HX4
        have HROW := Lib.hid hrow
        have HBW := Lib.hid hbw
        have HX2 := Lib.hid hx2
        have HX4 := Lib.hid hx4
        clear hrow hbw hx2 hx4
        obtain ⟨W6, hW⟩ : ∃ x, x = wc := ⟨_, rfl⟩
        subst hW
        go_upto_region 5 with (fail)
        have HOF := Lib.hid (fun (w' : World) (hb : Below W6.heap.size W6 w') => of_calls tx4 st4 w' (HLD.out.below (below_call0 HBW.out HBW.out.size hb)) (by decide) cond4 (goodB_all good4).2.2.2)
        have hev0 := fun (w' : World) (A : Option Addr) (c : Nat) (hb : Below W6.heap.size W6 w') (hr : RowS w' st4 A) => holds_calls st4 A c row1 _ _ _ _ _ _ w' (goodB_all good4).2.2.1 (goodB_all good4).1 (goodB_all good4).2.1 (HLD.out.below (below_call0 HBW.out HBW.out.size hb)) hr (HROW.out.keep hb).rv
        rw [eval4] at hev0
        have HEV := Lib.hid hev0
        clear hev0
        obtain ⟨ln, hln⟩ : ∃ x, (st4).length = x := ⟨_, rfl⟩
        rw [hln] at HOF HEV
        unfold tx4 at HOF
        generalize st4 = sts at HOF HEV
        clear hln
        obtain ⟨y0, y1, y2, y3, y4, y5, y6⟩ := cells6 HROW.out.2
        go_cut [8, 9] (fun s8 s9 wx => s8 = .bool false ∧ s9 = .int .i64 0 ∧ Below W6.heap.size W6 wx)
        case first =>
          go_region_with (first | (go_at_call 12; (with_reducible refine (HOF.out _ (Below.drew (Below.refl _ _))).mono ?_); rintro e w5 ⟨A5, c5, rfl, hr5, hc5, hb5⟩; have HB5 := Lib.hid (below_call0 (Below.drew (Below.refl W6.heap.size W6)) (Nat.le_refl _) hb5); have HR5 := Lib.hid hr5; clear hr5 hb5 y0 y1 y2 y3 y4 y5 y6; obtain ⟨y0, y1, y2, y3, y4, y5, y6⟩ := cells6 (HROW.out.keep HB5.out).2) | (go_at_call 11; (with_reducible refine (HEV.out w5 A5 c5 HB5.out HR5.out).mono ?_); rintro e w8 ⟨rfl, hb8⟩; have HB8 := Lib.hid hb8; clear hb8))
          all_goals (go_wp2_with fail)
          all_goals go_meet
          all_goals exact ⟨rfl, rfl, below_call0 HB5.out HB5.out.size HB8.out⟩
        case rest =>
          obtain ⟨rfl, rfl, hcd⟩ := hcut
          have hbw := below_call0 HBW.out HBW.out.size hcd
          have hx2 := HX2.out.keep hcd
          have hx4 := HX4.out.keep hcd
          obtain ⟨_, _, _, _, hz2, _⟩ := hx2.cells
          obtain ⟨_, _, _, _, hz4, _⟩ := hx4.cells
          obtain ⟨p0, p1, p2, p3, p4, p5, p6⟩ := cells6 hz2
          obtain ⟨q0, q1, q2, q3, q4, q5, q6⟩ := cells6 hz4
          have HBF := Lib.hid hbw
          clear hbw hx2 hx4 hz2 hz4 HROW HBW HOF HEV HX2 HX4 HX6 hcd y0 y1 y2 y3 y4 y5 y6
          go_wp2_with fail
          go_ret
          exact ⟨rfl, HBF.out⟩
end Go.Proofs.YtgjgllfeinjpnaaGreatDoor
