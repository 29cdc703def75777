import Derived.Test.YtbemgcjckchdjaaGreatDoorLGj
import Derived.Test.YtbemgcjckchdjaaGreatDoorLRc
import Derived.Test.YtbemgcjckchdjaaGreatDoorLCd
/- codicillaw14.of; what the laws' own programs come to (plain facts by the kernel). -/
namespace Go.Proofs.YtbemgcjckchdjaaGreatDoor
open Go.RowKit
set_option linter.unusedSimpArgs false
set_option linter.unusedVariables false
set_option maxHeartbeats 4000000
set_option maxRecDepth 100000
theorem RunPost.parts {w w' : World} {k : Int} {b : Bool} {n : Int} {s : ByteArray} {l : VL} {f : FL} {wy m : Int} {nl : Nat} {x : Ending} (h : RunPost ((.mk k b n s l f, wy), nl) w x w') (hm : (nl : Int) = m) : Below w.heap.size w w' ∧ ∃ a1 c1 a2 c2, x = .returned (.tuple #[.agg #[.int .u8 k, .bool b, .int .i64 n, .string s, .slice a1 l.len c1, .slice a2 f.len c2], .int .i64 m, .int .i64 wy]) ∧
  RV w' w.heap.size w'.heap.size (.mk k b n s l f) [.int .u8 k, .bool b, .int .i64 n, .string s, .slice a1 l.len c1, .slice a2 f.len c2] := by
 obtain ⟨hb, v0, v1, v2, v3, v4, v5, e, hv⟩ := h
 obtain ⟨k', b', n', s', l', f', a1, c1, a2, c2, e1, e2, _⟩ := RV.mk_parts hv
 cases e1
 simp only [List.cons.injEq, and_true] at e2
 obtain ⟨rfl, rfl, rfl, rfl, rfl, rfl⟩ := e2
 subst hm
 exact ⟨hb, a1, c1, a2, c2, e, hv⟩
theorem LH {s : ByteArray} (h : BT s = true) : s.size ≤ 16384 := by
 rcases Nat.lt_or_ge 16384 s.size with hb | hb
 · unfold BT DL at h
   rw [if_pos hb] at h
   cases h
 · exact hb
theorem EQ (s : ByteArray) (st : List ST) (w : World) (hL : Laid w) (hs : s.size ≤ 1000) (hc : Ij s = some st) (hg : GB st = true) :
   Calls Tryz.prog 29 #[.string s] w fun e w' => ∃ A c, e = .returned (.slice A (AB st).1.length c) ∧ RowI w' (AB st).1 A ∧ Below w.heap.size w w' := by
 have hsz := (Gg hg).2.2.2
 unfold Ij at hc
 split at hc
 · cases hc
 rename_i l hlex
 cases hd : K7 l with
 | none => rw [hd] at hc; cases hc
 | some v =>
   obtain ⟨t, st'⟩ := v
   rw [hd] at hc
   obtain rfl : st' = st := by simpa using hc
   obtain ⟨_, _, _, _, _, _, _, _, _, _, _, _, hn, hr, _⟩ := Il hd
   have hlen : st'.length ≤ 128 := by
    unfold Av at hr
    simp only [Bool.and_eq_true, decide_eq_true_eq] at hr
    exact hr.2
   have hts : t.size ≤ LIM := by
    unfold LIM
    have := LH hn
    omega
   have hsz' : ∀ x ∈ st', x.t.size ≤ LIM := fun x hx => by
    have := List.all_eq_true.1 hsz x hx
    unfold LIM
    have := of_decide_eq_true this
    omega
   have H := Lib.hid (On (Kd ++ s) l t st' w (by rw [ByteArray.size_append]; have : Kd.size = 20 := rfl; omega) hL hlex hd hts hsz' hlen)
   have HCM := Lib.hid (fun (w' : World) (A : Option Addr) (c : Nat) (hb : Below w.heap.size w w') (hr : RowS w' st' A) => Ce st' A c w' (Gg hg).2.2.1 (Gg hg).1 (hL.below hb) hr)
   clear hc hlex hd hn hr hlen hts hsz' hsz hL hg
   unfold Kd at H
   go_enter Tryz.func29, Tryz.ntmps29
   go_upto_region 2 with (go_at_call 42; refine (H.out).mono ?_; rintro e w1 ⟨A, c, rfl, hr1, hc1, hb1⟩; have HR1 := Lib.hid (RowS.keep hr1 (Ad (BG 5 t (.slice A st'.length c)))); have HB1 := Lib.hid (Aa hb1 hb1.size (Ad (BG 5 t (.slice A st'.length c)))); have HY := Lib.hid (Ab w1 (BG 5 t (.slice A st'.length c))); clear hr1 hb1)
   generalize w1.alloc (BG 5 t (.slice A st'.length c)) = w2 at *
   obtain ⟨y0, y1, y2, y3, y4, y5, y6, y7⟩ := BN HY.out
   go_wp2_with (go_at_call 14; (with_reducible refine (HCM.out _ _ _ HB1.out HR1.out).mono ?_); rintro e w3 ⟨A3, c3, rfl, hc3, hr3, hb3⟩; have HR3 := Lib.hid hr3; have HB3 := Lib.hid (Aa HB1.out HB1.out.size hb3); clear hr3 hb3)
   go_ret
   exact ⟨A3, c3, rfl, HR3.out, HB3.out⟩
abbrev nN : ByteArray := ⟨#[110]⟩
abbrev FA : VT := Eg (.cons nA (AK false) (.cons nN (CQ 2) .nil))
def tv1 : ByteArray := ⟨#[97, 32, 65, 78, 68, 32, 98]⟩
def tv2 : ByteArray := ⟨#[110, 32, 43, 32, 49]⟩
def tv3 : ByteArray := ⟨#[110, 32, 61, 32, 50, 32, 79, 82, 32, 110]⟩
abbrev pN : ST := ⟨6, nN, 0⟩
def sv1 : List ST := [pA, pB, oP 21]
def sv2 : List ST := [pN, nI 1, oP 12]
def sv3 : List ST := [pN, nI 2, oP 15, pN, oP 22]
theorem SA : Ij tv1 = some sv1 := by kernel_rfl
theorem OS : Ij tv2 = some sv2 := by kernel_rfl
theorem SB : Ij tv3 = some sv3 := by kernel_rfl
theorem SS : BC (AB sv1).1 FA 9 = ((AK false, 0), 7) := by kernel_rfl
theorem SU : BC (AB sv2).1 FA 3 = ((CQ 3, 0), 0) := by kernel_rfl
theorem SV : BC (AB sv2).1 FA 2 = ((Am, 16), 0) := by kernel_rfl
theorem SW : Dk (AB sv3).1 FA 9 = (true, 5, 0) := by kernel_rfl
theorem SC : GB sv1 = true := by kernel_rfl
theorem OT : GB sv2 = true := by kernel_rfl
theorem SD : GB sv3 = true := by kernel_rfl
def Io (p : List IT) : Bool := p.all (fun x => decide (-9223372036854775808 ≤ x.s.n) && decide (x.s.n ≤ 9223372036854775807) && decide (x.s.t.size ≤ 1024) && decide (0 ≤ x.s.k)) && decide (p.length ≤ 256)
theorem Cx {p : List IT} (h : Io p = true) : (∀ x ∈ p, Be x.s) ∧ p.length ≤ LIM := by
 unfold Io at h
 simp only [Bool.and_eq_true, List.all_eq_true, decide_eq_true_eq] at h
 obtain ⟨h1, h2⟩ := h
 refine ⟨fun x hx => ?_, by unfold LIM; omega⟩
 obtain ⟨⟨⟨a, b⟩, c⟩, d⟩ := h1 x hx
 exact ⟨⟨a, b⟩, by unfold LIM; omega, d⟩
theorem OU : Io (AB sv1).1 = true := by kernel_rfl
theorem IC : Io (AB sv2).1 = true := by kernel_rfl
theorem OV : Io (AB sv3).1 = true := by kernel_rfl
def RowVm (n : Nat) (w : World) : Prop := w.heap[n]? = some (.cells #[.string nA, .int .u8 1, .bool false, .int .i64 0, .string ⟨#[]⟩, .slice none 0 0, .slice none 0 0, .string nN, .int .u8 2, .bool false, .int .i64 2, .string ⟨#[]⟩, .slice none 0 0, .slice none 0 0] 53 (0, 0)) ∧
 w.heap[n + 1]? = some (.cells #[.int .u8 6, .bool false, .int .i64 0, .string ⟨#[]⟩, .slice none 0 0, .slice (some ⟨n, 0, none⟩) 2 2] 27 (0, 0))
theorem RowVm.keep {n : Nat} {w w' : World} (h : RowVm n w) (hb : Below w.heap.size w w') : RowVm n w' := ⟨blk hb h.1, blk hb h.2⟩
theorem RowVm.rv {n : Nat} {w : World} (h : RowVm n w) : RV w 0 w.heap.size FA [.int .u8 6, .bool false, .int .i64 0, .string ⟨#[]⟩, .slice none 0 0, .slice (some ⟨n, 0, none⟩) 2 2] := by
 obtain ⟨h1, h2⟩ := h
 have hl := lt_of_block h1
 have hc : ∀ (i : Nat) (v : Value), #[.string nA, .int .u8 1, .bool false, .int .i64 0, .string ⟨#[]⟩, .slice none 0 0, .slice none 0 0, .string nN, .int .u8 2, .bool false, .int .i64 2, .string ⟨#[]⟩, .slice none 0 0, .slice none 0 0][i]? = some v → w.cell? ⟨n, i, none⟩ = some v := fun i v hv => by
  simp only [World.cell?, h1]
  exact hv
 exact ⟨_, _, _, _, rfl, by decide, by unfold I64; decide, by decide, by decide, by decide, by decide, by decide, Or.inl rfl, Or.inr ⟨n, 0, rfl, Nat.zero_le _, hl,
  ⟨hc 0 _ rfl, by decide, _, _, _, _, _, _, hc 1 _ rfl, hc 2 _ rfl, hc 3 _ rfl, hc 4 _ rfl, hc 5 _ rfl, hc 6 _ rfl, FB false w⟩,
  ⟨hc 7 _ rfl, by decide, _, _, _, _, _, _, hc 8 _ rfl, hc 9 _ rfl, hc 10 _ rfl, hc 11 _ rfl, hc 12 _ rfl, hc 13 _ rfl, Gu 2 (by unfold I64; decide) w⟩, trivial⟩⟩
/- codicillaw14.lives (printed by genlivv.py). -/
set_option maxHeartbeats 4000000
set_option maxRecDepth 100000
theorem Ca (w : World) (hL : Laid w) : Calls Tryz.prog 13 #[] w fun e w' => e = .returned (.bool true) ∧ Below w.heap.size w w' := by
 have HLD := Lib.hid hL
 clear hL
 go_enter Tryz.func13, Tryz.ntmps13
 go_upto_region 2 with (fail)
 have hR : RowVm w.heap.size ((w.alloc (.cells #[.string nA, .int .u8 1, .bool false, .int .i64 0, .string ⟨#[]⟩, .slice none 0 0, .slice none 0 0, .string nN, .int .u8 2, .bool false, .int .i64 2, .string ⟨#[]⟩, .slice none 0 0, .slice none 0 0] 53)).alloc (.cells #[.int .u8 6, .bool false, .int .i64 0, .string ⟨#[]⟩, .slice none 0 0, .slice (some ⟨w.heap.size, 0, none⟩) 2 2] 27)) := ⟨Af (Ab _ _), by simpa using Ab (w.alloc (.cells #[.string nA, .int .u8 1, .bool false, .int .i64 0, .string ⟨#[]⟩, .slice none 0 0, .slice none 0 0, .string nN, .int .u8 2, .bool false, .int .i64 2, .string ⟨#[]⟩, .slice none 0 0, .slice none 0 0] 53)) (.cells #[.int .u8 6, .bool false, .int .i64 0, .string ⟨#[]⟩, .slice none 0 0, .slice (some ⟨w.heap.size, 0, none⟩) 2 2] 27)⟩
 have hB := Aj (w := w) (.cells #[.string nA, .int .u8 1, .bool false, .int .i64 0, .string ⟨#[]⟩, .slice none 0 0, .slice none 0 0, .string nN, .int .u8 2, .bool false, .int .i64 2, .string ⟨#[]⟩, .slice none 0 0, .slice none 0 0] 53) (.cells #[.int .u8 6, .bool false, .int .i64 0, .string ⟨#[]⟩, .slice none 0 0, .slice (some ⟨w.heap.size, 0, none⟩) 2 2] 27)
 generalize (w.alloc (.cells #[.string nA, .int .u8 1, .bool false, .int .i64 0, .string ⟨#[]⟩, .slice none 0 0, .slice none 0 0, .string nN, .int .u8 2, .bool false, .int .i64 2, .string ⟨#[]⟩, .slice none 0 0, .slice none 0 0] 53)).alloc (.cells #[.int .u8 6, .bool false, .int .i64 0, .string ⟨#[]⟩, .slice none 0 0, .slice (some ⟨w.heap.size, 0, none⟩) 2 2] 27) = W at *
 have HROW := Lib.hid hR
 have HBW := Lib.hid hB
 clear hR hB
 have hof0 := fun (w' : World) (hb : Below W.heap.size W w') => EQ tv1 sv1 w' (HLD.out.below (Aa HBW.out HBW.out.size hb)) (by decide) SA SC
 have hev0 := fun (w' : World) (A : Option Addr) (c : Nat) (hb : Below W.heap.size W w') (hr : RowI w' (AB sv1).1 A) => O7 (AB sv1).1 A c FA 9 _ _ _ _ _ _ w' (Cx OU).2 (Cx OU).1 (HLD.out.below (Aa HBW.out HBW.out.size hb)) hr (HROW.out.keep hb).rv
 rw [SS] at hev0
 unfold tv1 at hof0
 generalize (AB sv1).1 = pp at hof0 hev0
 generalize pp.length = ln at hof0 hev0
 have HOF := Lib.hid hof0
 have HEV := Lib.hid hev0
 clear hof0 hev0
 have HDA := Lib.hid (Ad (w := W) Ah)
 have HDZ := Lib.hid (Ab W Ah)
 obtain ⟨y0, y1, y2, y3, y4, y5, y6⟩ := Ae HROW.out.2
 obtain ⟨x0, x1, x2, x3, x4, x5, x6⟩ := Ae (Af (o := Ah) HROW.out.2)
 go_cut [2, 3, 4] (fun s2 s3 s4 wx => ∃ g, s2 = .pointer (some ⟨g, 0, none⟩) ∧ s3 = .int .i64 7 ∧ s4 = .int .i64 0 ∧ Cut W wx g (AK false))
 case first =>
  go_region_with (first | (go_at_call 29; first | ((with_reducible refine (HOF.out _ (Below.drew (Below.refl _ _))).mono ?_); rintro e w5 ⟨A5, c5, rfl, hr5, hb5⟩; have HB5 := Lib.hid (Aa (Below.drew (Below.refl W.heap.size W)) (Nat.le_refl _) hb5); have HR5 := Lib.hid hr5; clear hr5 hb5 y0 y1 y2 y3 y4 y5 y6 x0 x1 x2 x3 x4 x5 x6; obtain ⟨y0, y1, y2, y3, y4, y5, y6⟩ := Ae (HROW.out.keep HB5.out).2; obtain ⟨x0, x1, x2, x3, x4, x5, x6⟩ := Ae (Af (o := Ah) (HROW.out.keep HB5.out).2)) | ((with_reducible refine (HOF.out _ (Below.drew HDA.out)).mono ?_); rintro e w5 ⟨A5, c5, rfl, hr5, hb5⟩; have HB5 := Lib.hid (Aa (Below.drew HDA.out) HDA.out.size hb5); have HZ5 := Lib.hid (blk (W := (W.alloc Ah).drew) hb5 HDZ.out); have HR5 := Lib.hid hr5; clear hr5 hb5 y0 y1 y2 y3 y4 y5 y6 x0 x1 x2 x3 x4 x5 x6; obtain ⟨y0, y1, y2, y3, y4, y5, y6⟩ := Ae (HROW.out.keep HB5.out).2; obtain ⟨x0, x1, x2, x3, x4, x5, x6⟩ := Ae (Af (o := Ah) (HROW.out.keep HB5.out).2))) | (go_at_call 15; first | ((with_reducible refine (HEV.out w5 A5 c5 HB5.out HR5.out).mono ?_); intro e w8 hev; obtain ⟨hb8, a1, c1, a2, c2, rfl, hv8⟩ := hev.parts (m := 7) rfl; have HB8 := Lib.hid hb8; have HV8 := Lib.hid hv8; clear hev hb8 hv8; first | (have hz8 := blk HB8.out HZ5.out; obtain ⟨z0, z1, z2, z3, z4, z5, z6⟩ := Ae hz8; clear hz8) | skip) | ((with_reducible refine (HEV.out (w5.alloc Ah) A5 c5 (Aa HB5.out HB5.out.size (Ad _)) (RowI.keep HR5.out (Ad _))).mono ?_); intro e w8 hev; obtain ⟨hb8, a1, c1, a2, c2, rfl, hv8⟩ := hev.parts (m := 7) rfl; have HB8 := Lib.hid hb8; have HV8 := Lib.hid hv8; clear hev hb8 hv8; obtain ⟨z0, z1, z2, z3, z4, z5, z6⟩ := Ae (blk HB8.out (Ab w5 Ah)))))
  all_goals (go_wp2_with fail)
  all_goals go_meet
  all_goals (refine ⟨_, rfl, rfl, rfl, ?_⟩)
  all_goals first | (have hz := blk HB8.out HZ5.out; have hc := Pp (Aa HB5.out HB5.out.size HB8.out) hz HV8.out (lt_of_block HZ5.out); with_reducible exact hc) | (have hc := Pr (Aa HB5.out HB5.out.size HB8.out) HV8.out HB5.out.size; with_reducible exact hc) | (have hc := Pq HB5.out HB8.out HV8.out; with_reducible exact hc)
 case rest =>
  obtain ⟨g2, rfl, rfl, rfl, hcd⟩ := hcut
  have hrow := HROW.out.keep hcd.1
  have hbw := Aa HBW.out HBW.out.size hcd.1
  have HX2 := Lib.hid hcd.2
  clear HROW HBW HOF HEV HDA HDZ y0 y1 y2 y3 y4 y5 y6 x0 x1 x2 x3 x4 x5 x6 hcd
  have HROW := Lib.hid hrow
  have HBW := Lib.hid hbw
  clear hrow hbw
  obtain ⟨W2, hW⟩ : ∃ x, x = wc := ⟨_, rfl⟩
  subst hW
  go_upto_region 3 with (fail)
  have hof0 := fun (w' : World) (hb : Below W2.heap.size W2 w') => EQ tv2 sv2 w' (HLD.out.below (Aa HBW.out HBW.out.size hb)) (by decide) OS OT
  have hev0 := fun (w' : World) (A : Option Addr) (c : Nat) (hb : Below W2.heap.size W2 w') (hr : RowI w' (AB sv2).1 A) => O7 (AB sv2).1 A c FA 3 _ _ _ _ _ _ w' (Cx IC).2 (Cx IC).1 (HLD.out.below (Aa HBW.out HBW.out.size hb)) hr (HROW.out.keep hb).rv
  rw [SU] at hev0
  unfold tv2 at hof0
  generalize (AB sv2).1 = pp at hof0 hev0
  generalize pp.length = ln at hof0 hev0
  have HOF := Lib.hid hof0
  have HEV := Lib.hid hev0
  clear hof0 hev0
  have HDA := Lib.hid (Ad (w := W2) Ah)
  have HDZ := Lib.hid (Ab W2 Ah)
  obtain ⟨y0, y1, y2, y3, y4, y5, y6⟩ := Ae HROW.out.2
  obtain ⟨x0, x1, x2, x3, x4, x5, x6⟩ := Ae (Af (o := Ah) HROW.out.2)
  go_cut [5, 6, 7] (fun s5 s6 s7 wx => ∃ g, s5 = .pointer (some ⟨g, 0, none⟩) ∧ s6 = .int .i64 0 ∧ s7 = .int .i64 0 ∧ Cut W2 wx g (CQ 3))
  case first =>
   go_region_with (first | (go_at_call 29; first | ((with_reducible refine (HOF.out _ (Below.drew (Below.refl _ _))).mono ?_); rintro e w5 ⟨A5, c5, rfl, hr5, hb5⟩; have HB5 := Lib.hid (Aa (Below.drew (Below.refl W2.heap.size W2)) (Nat.le_refl _) hb5); have HR5 := Lib.hid hr5; clear hr5 hb5 y0 y1 y2 y3 y4 y5 y6 x0 x1 x2 x3 x4 x5 x6; obtain ⟨y0, y1, y2, y3, y4, y5, y6⟩ := Ae (HROW.out.keep HB5.out).2; obtain ⟨x0, x1, x2, x3, x4, x5, x6⟩ := Ae (Af (o := Ah) (HROW.out.keep HB5.out).2)) | ((with_reducible refine (HOF.out _ (Below.drew HDA.out)).mono ?_); rintro e w5 ⟨A5, c5, rfl, hr5, hb5⟩; have HB5 := Lib.hid (Aa (Below.drew HDA.out) HDA.out.size hb5); have HZ5 := Lib.hid (blk (W := (W2.alloc Ah).drew) hb5 HDZ.out); have HR5 := Lib.hid hr5; clear hr5 hb5 y0 y1 y2 y3 y4 y5 y6 x0 x1 x2 x3 x4 x5 x6; obtain ⟨y0, y1, y2, y3, y4, y5, y6⟩ := Ae (HROW.out.keep HB5.out).2; obtain ⟨x0, x1, x2, x3, x4, x5, x6⟩ := Ae (Af (o := Ah) (HROW.out.keep HB5.out).2))) | (go_at_call 15; first | ((with_reducible refine (HEV.out w5 A5 c5 HB5.out HR5.out).mono ?_); intro e w8 hev; obtain ⟨hb8, a1, c1, a2, c2, rfl, hv8⟩ := hev.parts (m := 0) rfl; have HB8 := Lib.hid hb8; have HV8 := Lib.hid hv8; clear hev hb8 hv8; first | (have hz8 := blk HB8.out HZ5.out; obtain ⟨z0, z1, z2, z3, z4, z5, z6⟩ := Ae hz8; clear hz8) | skip) | ((with_reducible refine (HEV.out (w5.alloc Ah) A5 c5 (Aa HB5.out HB5.out.size (Ad _)) (RowI.keep HR5.out (Ad _))).mono ?_); intro e w8 hev; obtain ⟨hb8, a1, c1, a2, c2, rfl, hv8⟩ := hev.parts (m := 0) rfl; have HB8 := Lib.hid hb8; have HV8 := Lib.hid hv8; clear hev hb8 hv8; obtain ⟨z0, z1, z2, z3, z4, z5, z6⟩ := Ae (blk HB8.out (Ab w5 Ah)))))
   all_goals (go_wp2_with fail)
   all_goals go_meet
   all_goals (refine ⟨_, rfl, rfl, rfl, ?_⟩)
   all_goals first | (have hz := blk HB8.out HZ5.out; have hc := Pp (Aa HB5.out HB5.out.size HB8.out) hz HV8.out (lt_of_block HZ5.out); with_reducible exact hc) | (have hc := Pr (Aa HB5.out HB5.out.size HB8.out) HV8.out HB5.out.size; with_reducible exact hc) | (have hc := Pq HB5.out HB8.out HV8.out; with_reducible exact hc)
  case rest =>
   obtain ⟨g5, rfl, rfl, rfl, hcd⟩ := hcut
   have hrow := HROW.out.keep hcd.1
   have hbw := Aa HBW.out HBW.out.size hcd.1
   have hx2 := HX2.out.keep hcd.1
   have HX5 := Lib.hid hcd.2
   clear HROW HBW HOF HEV HDA HDZ y0 y1 y2 y3 y4 y5 y6 x0 x1 x2 x3 x4 x5 x6 hcd HX2
   have HROW := Lib.hid hrow
   have HBW := Lib.hid hbw
   have HX2 := Lib.hid hx2
   clear hrow hbw hx2
   obtain ⟨W5, hW⟩ : ∃ x, x = wc := ⟨_, rfl⟩
   subst hW
   go_upto_region 4 with (fail)
   have hof0 := fun (w' : World) (hb : Below W5.heap.size W5 w') => EQ tv2 sv2 w' (HLD.out.below (Aa HBW.out HBW.out.size hb)) (by decide) OS OT
   have hev0 := fun (w' : World) (A : Option Addr) (c : Nat) (hb : Below W5.heap.size W5 w') (hr : RowI w' (AB sv2).1 A) => O7 (AB sv2).1 A c FA 2 _ _ _ _ _ _ w' (Cx IC).2 (Cx IC).1 (HLD.out.below (Aa HBW.out HBW.out.size hb)) hr (HROW.out.keep hb).rv
   rw [SV] at hev0
   unfold tv2 at hof0
   generalize (AB sv2).1 = pp at hof0 hev0
   generalize pp.length = ln at hof0 hev0
   have HOF := Lib.hid hof0
   have HEV := Lib.hid hev0
   clear hof0 hev0
   have HDA := Lib.hid (Ad (w := W5) Ah)
   have HDZ := Lib.hid (Ab W5 Ah)
   obtain ⟨y0, y1, y2, y3, y4, y5, y6⟩ := Ae HROW.out.2
   obtain ⟨x0, x1, x2, x3, x4, x5, x6⟩ := Ae (Af (o := Ah) HROW.out.2)
   go_cut [8, 9, 10] (fun s8 s9 s10 wx => ∃ g, s8 = .pointer (some ⟨g, 0, none⟩) ∧ s9 = .int .i64 0 ∧ s10 = .int .i64 16 ∧ Cut W5 wx g Am)
   case first =>
    go_region_with (first | (go_at_call 29; first | ((with_reducible refine (HOF.out _ (Below.drew (Below.refl _ _))).mono ?_); rintro e w5 ⟨A5, c5, rfl, hr5, hb5⟩; have HB5 := Lib.hid (Aa (Below.drew (Below.refl W5.heap.size W5)) (Nat.le_refl _) hb5); have HR5 := Lib.hid hr5; clear hr5 hb5 y0 y1 y2 y3 y4 y5 y6 x0 x1 x2 x3 x4 x5 x6; obtain ⟨y0, y1, y2, y3, y4, y5, y6⟩ := Ae (HROW.out.keep HB5.out).2; obtain ⟨x0, x1, x2, x3, x4, x5, x6⟩ := Ae (Af (o := Ah) (HROW.out.keep HB5.out).2)) | ((with_reducible refine (HOF.out _ (Below.drew HDA.out)).mono ?_); rintro e w5 ⟨A5, c5, rfl, hr5, hb5⟩; have HB5 := Lib.hid (Aa (Below.drew HDA.out) HDA.out.size hb5); have HZ5 := Lib.hid (blk (W := (W5.alloc Ah).drew) hb5 HDZ.out); have HR5 := Lib.hid hr5; clear hr5 hb5 y0 y1 y2 y3 y4 y5 y6 x0 x1 x2 x3 x4 x5 x6; obtain ⟨y0, y1, y2, y3, y4, y5, y6⟩ := Ae (HROW.out.keep HB5.out).2; obtain ⟨x0, x1, x2, x3, x4, x5, x6⟩ := Ae (Af (o := Ah) (HROW.out.keep HB5.out).2))) | (go_at_call 15; first | ((with_reducible refine (HEV.out w5 A5 c5 HB5.out HR5.out).mono ?_); intro e w8 hev; obtain ⟨hb8, a1, c1, a2, c2, rfl, hv8⟩ := hev.parts (m := 0) rfl; have HB8 := Lib.hid hb8; have HV8 := Lib.hid hv8; clear hev hb8 hv8; first | (have hz8 := blk HB8.out HZ5.out; obtain ⟨z0, z1, z2, z3, z4, z5, z6⟩ := Ae hz8; clear hz8) | skip) | ((with_reducible refine (HEV.out (w5.alloc Ah) A5 c5 (Aa HB5.out HB5.out.size (Ad _)) (RowI.keep HR5.out (Ad _))).mono ?_); intro e w8 hev; obtain ⟨hb8, a1, c1, a2, c2, rfl, hv8⟩ := hev.parts (m := 0) rfl; have HB8 := Lib.hid hb8; have HV8 := Lib.hid hv8; clear hev hb8 hv8; obtain ⟨z0, z1, z2, z3, z4, z5, z6⟩ := Ae (blk HB8.out (Ab w5 Ah)))))
    all_goals (go_wp2_with fail)
    all_goals go_meet
    all_goals (refine ⟨_, rfl, rfl, rfl, ?_⟩)
    all_goals first | (have hz := blk HB8.out HZ5.out; have hc := Pp (Aa HB5.out HB5.out.size HB8.out) hz HV8.out (lt_of_block HZ5.out); with_reducible exact hc) | (have hc := Pr (Aa HB5.out HB5.out.size HB8.out) HV8.out HB5.out.size; with_reducible exact hc) | (have hc := Pq HB5.out HB8.out HV8.out; with_reducible exact hc)
   case rest =>
    obtain ⟨g8, rfl, rfl, rfl, hcd⟩ := hcut
    have hrow := HROW.out.keep hcd.1
    have hbw := Aa HBW.out HBW.out.size hcd.1
    have hx2 := HX2.out.keep hcd.1
    have hx5 := HX5.out.keep hcd.1
    have HX8 := Lib.hid hcd.2
    clear HROW HBW HOF HEV HDA HDZ y0 y1 y2 y3 y4 y5 y6 x0 x1 x2 x3 x4 x5 x6 hcd HX2 HX5
    have HROW := Lib.hid hrow
    have HBW := Lib.hid hbw
    have HX2 := Lib.hid hx2
    have HX5 := Lib.hid hx5
    clear hrow hbw hx2 hx5
    obtain ⟨W8, hW⟩ : ∃ x, x = wc := ⟨_, rfl⟩
    subst hW
    go_upto_region 5 with (fail)
    have hof0 := fun (w' : World) (hb : Below W8.heap.size W8 w') => EQ tv3 sv3 w' (HLD.out.below (Aa HBW.out HBW.out.size hb)) (by decide) SB SD
    have hev0 := fun (w' : World) (A : Option Addr) (c : Nat) (hb : Below W8.heap.size W8 w') (hr : RowI w' (AB sv3).1 A) => S5 (AB sv3).1 A c FA 9 _ _ _ _ _ _ w' (Cx OV).2 (Cx OV).1 (HLD.out.below (Aa HBW.out HBW.out.size hb)) hr (HROW.out.keep hb).rv
    rw [SW] at hev0
    unfold tv3 at hof0
    generalize (AB sv3).1 = pp at hof0 hev0
    generalize pp.length = ln at hof0 hev0
    have HOF := Lib.hid hof0
    have HEV := Lib.hid hev0
    clear hof0 hev0
    obtain ⟨y0, y1, y2, y3, y4, y5, y6⟩ := Ae HROW.out.2
    go_cut [11, 12, 13] (fun s11 s12 s13 wx => s11 = .bool true ∧ s12 = .int .i64 5 ∧ s13 = .int .i64 0 ∧ Below W8.heap.size W8 wx)
    case first =>
     go_region_with (first | (go_at_call 29; (with_reducible refine (HOF.out _ (Below.drew (Below.refl _ _))).mono ?_); rintro e w5 ⟨A5, c5, rfl, hr5, hb5⟩; have HB5 := Lib.hid (Aa (Below.drew (Below.refl W8.heap.size W8)) (Nat.le_refl _) hb5); have HR5 := Lib.hid hr5; clear hr5 hb5 y0 y1 y2 y3 y4 y5 y6; obtain ⟨y0, y1, y2, y3, y4, y5, y6⟩ := Ae (HROW.out.keep HB5.out).2) | (go_at_call 19; (with_reducible refine (HEV.out w5 A5 c5 HB5.out HR5.out).mono ?_); rintro e w8 ⟨rfl, hb8⟩; have HB8 := Lib.hid hb8; clear hb8))
     all_goals (go_wp2_with fail)
     all_goals go_meet
     all_goals exact ⟨rfl, rfl, rfl, Aa HB5.out HB5.out.size HB8.out⟩
    case rest =>
     obtain ⟨rfl, rfl, rfl, hcd⟩ := hcut
     have hbw := Aa HBW.out HBW.out.size hcd
     have hx2 := HX2.out.keep hcd
     have hx5 := HX5.out.keep hcd
     obtain ⟨_, _, _, _, hz2, _⟩ := hx2.cells
     obtain ⟨_, _, _, _, hz5, _⟩ := hx5.cells
     obtain ⟨p0, p1, p2, p3, p4, p5, p6⟩ := Ae hz2
     obtain ⟨q0, q1, q2, q3, q4, q5, q6⟩ := Ae hz5
     have HBF := Lib.hid hbw
     clear hbw hx2 hx5 hz2 hz5 HROW HBW HOF HEV HX2 HX5 HX8 hcd y0 y1 y2 y3 y4 y5 y6
     go_wp2_with fail
     go_ret
     exact ⟨rfl, HBF.out⟩
end Go.Proofs.YtbemgcjckchdjaaGreatDoor
