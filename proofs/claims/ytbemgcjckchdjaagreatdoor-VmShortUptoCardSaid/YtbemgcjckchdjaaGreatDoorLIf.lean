import Derived.Test.YtbemgcjckchdjaaGreatDoorLIa
import Derived.Test.YtbemgcjckchdjaaGreatDoorLEa
/- value.Put at a new name: the walk (printed by genput.py). -/
namespace Go.Proofs.YtbemgcjckchdjaaGreatDoor
open Go.RowKit
set_option linter.unusedSimpArgs false
set_option linter.unusedVariables false
set_option maxHeartbeats 4000000
set_option maxRecDepth 100000
theorem Mr (b : Bool) (n : Int) (s : ByteArray) (f : FL) (a1 a2 : Option Addr) (c1 c2 : Nat) (name : ByteArray) (x : VT) (u0 u1 u2 u3 u4 u5 : Value) (w : World)
  (hv : RV w 0 w.heap.size (.mk 6 b n s .nil f) [.int .u8 6, .bool b, .int .i64 n, .string s, .slice a1 0 c1, .slice a2 f.len c2]) (hx : RV w 0 w.heap.size x [u0, u1, u2, u3, u4, u5]) (hf : f.len ≤ 1000) (hn : name.size ≤ LIM) (hnew : BS name f 0 = -1) :
  Calls Tryz.prog 210 #[.agg #[.int .u8 6, .bool b, .int .i64 n, .string s, .slice a1 0 c1, .slice a2 f.len c2], .string name, .agg #[u0, u1, u2, u3, u4, u5]] w (EvPost w (.mk 6 b n s .nil (CP name x f), 0)) := by
 have hx0 := hx
 obtain ⟨kx, bx, nx, sx, lx, fx, ax1, cx1, ax2, cx2, hxe, ex, hjx⟩ := RV.mk_parts hx
 simp only [List.cons.injEq, and_true] at ex
 obtain ⟨rfl, rfl, rfl, rfl, rfl, rfl⟩ := ex
 clear hjx hx
 have HFL := Lib.hid hf
 have HNM := Lib.hid hn
 have HNW := Lib.hid hnew
 obtain ⟨W, hW, h0, h1, h2, h3, hB, hS⟩ := RX w (.cells #[.int .u8 6, .bool b, .int .i64 n, .string s, .slice a1 0 c1, .slice a2 f.len c2] 27) (.cells #[.string name] 9) (.cells #[.int .u8 kx, .bool bx, .int .i64 nx, .string sx, .slice ax1 lx.len cx1, .slice ax2 fx.len cx2] 27) (.cells #[.int .u8 0, .bool false, .int .i64 0, .string ⟨#[]⟩, .slice none 0 0, .slice none 0 0] 27)
 have HV0 := Lib.hid hv
 have HXV := Lib.hid (hx0.grow hB)
 have how := Mq (.mk 6 b n s .nil f) W _ W.heap.size (hv.grow hB) (Nat.le_refl _)
 have HOW : Hid (Calls Tryz.prog 75 #[.agg #[.int .u8 6, .bool b, .int .i64 n, .string s, .slice a1 0 c1, .slice a2 f.len c2]] W (G6 W 6 b n s .nil f)) := Lib.hid how
 have HB := Lib.hid hB
 have HS := Lib.hid hS
 have H0 := Lib.hid h0
 have H1 := Lib.hid h1
 have H2 := Lib.hid h2
 have H3 := Lib.hid h3
 clear hx0 hxe hf hn hnew how hv h0 h1 h2 h3 hB hS
 have HWE := Lib.hid hW
 clear hW
 go_enter Tryz.func210, Tryz.ntmps210
 go_upto_region 3 with (fail)
 have hw := HWE.out
 rw [hw]
 clear hw HWE
 obtain ⟨p0, p1, p2, p3, p4, p5, p6⟩ := Ae H0.out
 go_upto_region 4 with (go_at_call 75; (with_reducible refine (HOW.out).mono ?_); rintro e w5 ⟨v1, v2, rfl, hoc, hb5⟩; have HOC := Lib.hid hoc; have HB5 := Lib.hid hb5; obtain ⟨mid, hm1, hm2, ⟨xs, ho1⟩, ⟨ys, ho2⟩, hr1, hr2⟩ := hoc; obtain ⟨A1, C1, rfl⟩ : ∃ A1 C1, v1 = .slice A1 0 C1 := By ho1; obtain ⟨A2, C2, rfl⟩ := By ho2; have HM1 := Lib.hid hm1; have HM2 := Lib.hid hm2; have HO1 := Lib.hid ho1; have HO2 := Lib.hid ho2; have HR1 := Lib.hid hr1; have HR2 := Lib.hid hr2; clear hb5 hm1 hm2 ho1 ho2 hr1 hr2)
 have h8 := Ab w5 (.cells #[.int .u8 6, .bool b, .int .i64 n, .string s, .slice A1 0 C1, .slice A2 f.len C2] 27)
 have hb6 := Ad (w := w5) (.cells #[.int .u8 6, .bool b, .int .i64 n, .string s, .slice A1 0 C1, .slice A2 f.len C2] 27)
 have hb56 := Aa HB5.out HB5.out.size hb6
 have hown : ∀ k, (Value.slice A2 f.len C2).ownBlock = some k → k < mid := fun k hk => (HR2.out k hk).1
 have hrf : f.len = 0 ∨ ∃ b o, A2 = some ⟨b, o, none⟩ ∧ 0 ≤ b ∧ b < w5.heap.size ∧ RF w5 0 w5.heap.size f b o := by
  rcases C7 HO2.out with ⟨h, h0⟩ | ⟨g, cap, h, _, _, hg⟩
  · exact Or.inl h0
  · cases h
    exact Or.inr ⟨g, 0, rfl, Nat.zero_le _, hg, RF.keep (fun _ _ _ => rfl) (Nat.zero_le _) (Nat.le_refl _) f g 0 hg (HR2.out g rfl).2⟩
 have hys : Flds w5 (fun k => mid ≤ k ∧ k < w5.heap.size) f ys := by
  rcases C7 HO2.out with ⟨h, h0⟩ | ⟨g, cap, h, _, _, hg⟩
  · have hy : ys = [] := List.length_eq_zero_iff.1 (by rw [HO2.out.1, h0])
    have hf0 : f = .nil := by
      cases f with
      | nil => rfl
      | cons s t r => simp [FL.len] at h0
    subst hy
    subst hf0
    rfl
  · cases h
    exact Flds.of f ys 0 (RQF.of_rv f g 0 (HR2.out g rfl).2) HO2.out.1 (fun j hj => by rw [Nat.zero_add]; exact HO2.out.cellAt j (by rw [← HO2.out.1]; exact hj))
 have HYS := Lib.hid hys
 have HOWN := Lib.hid hown
 have HRF := Lib.hid hrf
 have HH1 := Lib.hid (blk hb56 H1.out)
 have HH2 := Lib.hid (blk hb56 H2.out)
 have HH3 := Lib.hid (blk hb56 H3.out)
 have HH8 := Lib.hid h8
 have HB6 := Lib.hid hb6
 have HBW6 := Lib.hid (Aa HB.out HB.out.size hb56)
 have HXV6 := Lib.hid (HXV.out.grow hb56)
 have HIX0 := fun (w' : World) (hb : Below (w5.alloc (.cells #[.int .u8 6, .bool b, .int .i64 n, .string s, .slice A1 0 C1, .slice A2 f.len C2] 27)).heap.size (w5.alloc (.cells #[.int .u8 6, .bool b, .int .i64 n, .string s, .slice A1 0 C1, .slice A2 f.len C2] 27)) w') (q : Nat) (hq : w'.cell? ⟨q, 0, none⟩ = some (.string name)) => EJ name w' w5.heap.size f A2 C2 q hq (by have := HFL.out; unfold LIM; omega) (Nat.le_trans (by simp) hb.size) (HRF.out.imp id fun ⟨b, o, e, h0, h1, h2⟩ => ⟨b, o, e, h0, h1, RF.keep (Same.of_below (Aa HB6.out HB6.out.size hb)) (Nat.le_refl _) (Nat.le_refl _) f b o h1 h2⟩)
 rw [HNW.out] at HIX0
 have HIX := Lib.hid HIX0
 have HIG0 := fun (w' : World) (hb : Below (w5.alloc (.cells #[.int .u8 6, .bool b, .int .i64 n, .string s, .slice A1 0 C1, .slice A2 f.len C2] 27)).heap.size (w5.alloc (.cells #[.int .u8 6, .bool b, .int .i64 n, .string s, .slice A1 0 C1, .slice A2 f.len C2] 27)) w') (q : Nat) (hq : w'.cell? ⟨q, 0, none⟩ = some (.string name)) => IY name w' w5.heap.size f A2 C2 q hq (by have := HFL.out; unfold LIM; omega) (Nat.le_trans (by simp) hb.size) (HRF.out.imp id fun ⟨b, o, e, h0, h1, h2⟩ => ⟨b, o, e, h0, h1, RF.keep (Same.of_below (Aa HB6.out HB6.out.size hb)) (Nat.le_refl _) (Nat.le_refl _) f b o h1 h2⟩)
 obtain ⟨ix, hix⟩ : ∃ ix, El name f 0 = ix := ⟨_, rfl⟩
 rw [hix] at HIG0
 have HIG := Lib.hid HIG0
 have HIXE := Lib.hid hix
 have hs6 : (w5.alloc (.cells #[.int .u8 6, .bool b, .int .i64 n, .string s, .slice A1 0 C1, .slice A2 f.len C2] 27)).heap.size = w5.heap.size + 1 := by simp
 have HS6 := Lib.hid hs6
 have hl1 : w.heap.size + 1 < w5.heap.size := by have := HS.out; have := HB5.out.size; omega
 clear HIX0 HIG0 hix h8 hb6 hb56 hown hrf hys hs6 p0 p1 p2 p3 p4 p5 p6 H0 H1 H2 H3 HXV HOW
 generalize w5.alloc (.cells #[.int .u8 6, .bool b, .int .i64 n, .string s, .slice A1 0 C1, .slice A2 f.len C2] 27) = W6 at *
 have n0 := Gb HH1.out
 obtain ⟨z0, z1, z2, z3, z4, z5, z6⟩ := Ae HH8.out
 go_cut [9] (fun s9 wx => s9 = .int .i64 (-1) ∧ Below W6.heap.size W6 wx)
 case first =>
  have hbd := (Below.refl W6.heap.size W6).drew
  have HSD : Hid (W6.drew.cell? ⟨w5.heap.size, 5, none⟩ = some (.slice A2 f.len C2) ∧ W6.drew.cell? ⟨w.heap.size + 1, 0, none⟩ = some (.string name)) := Lib.hid ⟨z5, n0⟩
  clear n0 z0 z1 z2 z3 z4 z5 z6
  go_region_held3 (fun w' => w'.cell? ⟨w5.heap.size, 5, none⟩ = some (.slice A2 f.len C2) ∧ w'.cell? ⟨w.heap.size + 1, 0, none⟩ = some (.string name))
    (first | (with_reducible exact HSD.out) | (with_reducible exact HS7.out) | (with_reducible exact HS8.out))
    (first | (go_at_call 72; refine (J8 name _).mono ?_; rintro e w7 ⟨q, rfl, hq, hb7⟩; have HQ := Lib.hid hq; have HB7 := Lib.hid (Aa hbd hbd.size hb7); have HS7 : Hid (w7.cell? ⟨w5.heap.size, 5, none⟩ = some (.slice A2 f.len C2) ∧ w7.cell? ⟨w.heap.size + 1, 0, none⟩ = some (.string name)) := Lib.hid ⟨Ac hb7 HSD.out.1, Ac hb7 HSD.out.2⟩; clear hq hb7) | (go_at_call 71; refine (HIX.out _ HB7.out _ HQ.out).mono ?_; rintro e w8 ⟨rfl, hb8⟩; have HS8 : Hid (w8.cell? ⟨w5.heap.size, 5, none⟩ = some (.slice A2 f.len C2) ∧ w8.cell? ⟨w.heap.size + 1, 0, none⟩ = some (.string name)) := Lib.hid ⟨Ac hb8 HS7.out.1, Ac hb8 HS7.out.2⟩; have HB8 := Lib.hid (Aa HB7.out HB7.out.size hb8); clear hb8))
  all_goals (go_wp2_with fail)
  all_goals go_meet
  all_goals exact ⟨rfl, HB8.out⟩
 case rest =>
  obtain ⟨rfl, hx⟩ := hcut
  have HBX := Lib.hid hx
  have HH1' := Lib.hid (blk hx HH1.out)
  have HH8' := Lib.hid (blk hx HH8.out)
  clear hx n0 z0 z1 z2 z3 z4 z5 z6
  have n0 := Gb HH1'.out
  obtain ⟨z0, z1, z2, z3, z4, z5, z6⟩ := Ae HH8'.out
  go_upto_if 37 with (go_at_call 71; (with_reducible refine (HIG.out _ HBX.out _ n0).mono ?_); rintro e w9 ⟨rfl, hb9⟩; have HB9 := Lib.hid (Aa HBX.out HBX.out.size hb9); clear hb9)
  have HN9 := Lib.hid (blk HB9.out HH1.out)
  have HX9 := Lib.hid (blk HB9.out HH2.out)
  have HZ9 := Lib.hid (blk HB9.out HH3.out)
  have HO9 := Lib.hid (blk HB9.out HH8.out)
  clear n0 z0 z1 z2 z3 z4 z5 z6 HBX HH1' HH8'
  obtain ⟨z0, z1, z2, z3, z4, z5, z6⟩ := Ae HO9.out
  go_cut [10] (fun s10 wx => s10 = .int .i64 ((atG name f : Nat) : Int) ∧ wx = w9)
  case first =>
    by_cases hat : atG name f < f.len
    · have e1 : ix = ((atG name f : Nat) : Int) := by rw [← HIXE.out, IX, if_pos hat, Nat.zero_add]
      subst e1
      have d1 : decide (((atG name f : Nat) : Int) < 0) = false := decide_eq_false (by omega)
      go_wp2_with fail
      go_meet
      exact ⟨rfl, rfl⟩
    · have e1 : ix = -1 := by rw [← HIXE.out, IX, if_neg hat]
      subst e1
      have hlen : f.len = atG name f := by have := Ig name f; omega
      have HLE := Lib.hid hlen
      clear hlen hat
      go_wp2_with fail
      go_meet
      exact ⟨by rw [← HLE.out], rfl⟩
  case rest =>
    obtain ⟨rfl, hwc⟩ := hcut
    rw [hwc]
    clear hwc HIX HIG HIXE
    go_upto_region 11 with (fail)
    have HAT := Lib.hid (Ig name f)
    obtain ⟨at', hat⟩ : ∃ m, atG name f = m := ⟨_, rfl⟩
    rw [hat]
    have HATE := Lib.hid hat
    clear hat
    have n0 := Gb HN9.out
    obtain ⟨x0, x1, x2, x3, x4, x5, x6⟩ := Ae HX9.out
    have HD9 := Lib.hid (Below.drew (Below.refl w9.heap.size w9))
    have HB59 := Lib.hid (Aa HB6.out HB6.out.size HB9.out)
    have HOX := Lib.hid (fun (w' : World) (hb : Below w9.heap.size w9 w') => JB x w' _ w'.heap.size ((HXV6.out.grow HB9.out).grow hb) (Nat.le_refl _))
    have HL9 := Lib.hid (lt_of_block HO9.out)
    go_cut [10] (fun s10 wx => RW w W w5 b n s f name x A1 C1 wx)
    case first =>
      go_region_with (first
        | (go_at_call 75; refine (HOX.out _ HD9.out).mono ?_; rintro e w12 ⟨ko, bo, no, so, o1, ol1, oc1, o2, ol2, oc2, rfl, hv12, hb12⟩; have hd12 := Aa HD9.out HD9.out.size hb12; have h512 := Aa HB59.out HB59.out.size hd12; have zz5 := Ac hd12 z5; have nn0 := Ac hd12 n0; have zz5' := Ac (Ad (w := w12) (.cells #[.string name, .int .u8 ko, .bool bo, .int .i64 no, .string so, .slice o1 ol1 oc1, .slice o2 ol2 oc2] 53)) zz5; have HV12 := Lib.hid hv12; have HD12 := Lib.hid hd12; have HINS := Lib.hid (MJ A2 f.len C2 at' w12.heap.size W.heap.size ys [.string name, .int .u8 ko, .bool bo, .int .i64 no, .string so, .slice o1 ol1 oc1, .slice o2 ol2 oc2] (w12.alloc (.cells #[.string name, .int .u8 ko, .bool bo, .int .i64 no, .string so, .slice o1 ol1 oc1, .slice o2 ol2 oc2] 53)) (AM (AM HO2.out h512) (Ad _)) (by rw [← HATE.out]; exact HAT.out) HFL.out (by have := HB5.out.size; have := h512.size; simp; omega) rfl (Ab _ _) (fun e => by have := HOWN.out _ e; have := HM2.out; have := h512.size; omega) (by intro u hu; simp only [List.mem_cons, List.not_mem_nil, or_false] at hu; rcases hu with rfl | rfl | rfl | rfl | rfl | rfl | rfl <;> rfl) (Flds.one f ys HYS.out)); clear hv12 hb12 hd12 h512)
        | (go_at_call 212; (with_reducible refine (HINS.out).mono ?_); rintro e w14 ⟨g', c', rfl, hins, hgrow, hat⟩; have HINS2 := Lib.hid hins; have HGR := Lib.hid hgrow; have HAT2 := Lib.hid hat; have hz14 : w14.heap[w5.heap.size]? = _ := (hgrow.block _ (by have := HL9.out; have := HD12.out.size; simp; omega) (fun e => by have := HOWN.out _ e.symm; have := HM2.out; omega)).trans (Af (blk HD12.out HO9.out)); have HZ14 := Lib.hid hz14; obtain ⟨y0, y1, y2, y3, y4, y5, y6⟩ := Ae hz14; clear hins hgrow hat hz14))
      all_goals (go_wp2_with fail)
      all_goals go_meet
      all_goals (have hc := Ou HV0 HFL HNM HS HB5 HM1 HM2 HOWN HO2 HYS HB6 HS6 HBW6 HB9 HL9 HZ9 HATE HD12 HV12 HGR HINS2 HAT2 HZ14; with_reducible exact hc)
    case rest =>
      obtain ⟨g', c', hq8, hres, hbx, hrv⟩ := hcut
      have HRV := Lib.hid hrv
      have HBX := Lib.hid hbx
      clear hrv hbx x0 x1 x2 x3 x4 x5 x6 z0 z1 z2 z3 z4 z5 z6 n0
      obtain ⟨z0, z1, z2, z3, z4, z5, z6⟩ := Ae hq8
      obtain ⟨y0, y1, y2, y3, y4, y5, y6⟩ := Ae hres
      have hl4 : w.heap.size + 1 + 1 + 1 < W.heap.size := by have := HS.out; omega
      have HL4 := Lib.hid hl4
      clear hl4 hq8 hres
      go_wp2_with fail
      refine bodyPost_ret (v := .tuple #[.agg #[.int .u8 6, .bool b, .int .i64 n, .string s, .slice A1 0 C1, .slice (some ⟨g', 0, none⟩) (f.len + 1) c'], .int .i64 0]) (by simp [results, Tryz.results210, go_sem, Ai, y0, y1, y2, y3, y4, y5]) rfl ?_
      exact ⟨Ag (by omega) [_, _, _, _, _, _] 0 _ HBX.out, _, _, _, _, _, _, rfl, RV.above (us := [_, _, _, _, _, _]) (o := 0) HRV.out HL4.out (by have := HS.out; omega) (Below.refl _ _)⟩
end Go.Proofs.YtbemgcjckchdjaaGreatDoor
