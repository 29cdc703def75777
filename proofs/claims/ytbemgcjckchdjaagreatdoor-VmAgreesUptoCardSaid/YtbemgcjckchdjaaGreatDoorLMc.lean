import Derived.Test.YtbemgcjckchdjaaGreatDoorLMa
import Derived.Test.YtbemgcjckchdjaaGreatDoorLRc
/- The node maker: structs (printed by genmks.py). -/
namespace Go.Proofs.YtbemgcjckchdjaaGreatDoor
open Go.RowKit
set_option linter.unusedSimpArgs false
set_option linter.unusedVariables false
theorem JC (f : FL) : ∀ ns : List ByteArray, BO f ns [] = f
 | [] => rfl
 | _ :: _ => rfl
theorem D4 : ∀ (vs : List VT) (i : Nat) (h : i < vs.length), (Au vs).get? i = some vs[i]
 | [], _, h => by simp at h
 | v :: r, 0, _ => rfl
 | v :: r, i + 1, h => D4 r i (by simpa using h)
def Bq (ns : List ByteArray) (vs : List VT) (i : Nat) : FL := BO .nil (ns.take i) (vs.take i)
theorem L6 {ns : List ByteArray} {vs : List VT} (h : vs.length = 0 ∨ ns.length = vs.length) : Bq ns vs vs.length = BO .nil ns vs := by
 unfold Bq
 rcases h with h | h
 · have hv : vs = [] := List.length_eq_zero_iff.1 h
   subst hv
   rw [List.take_nil, JC, JC]
 · rw [List.take_of_length_le (by omega), List.take_of_length_le (Nat.le_refl _)]
def MakeAt (w7 : World) (f : FL) (wr : World) : Prop := Below w7.heap.size w7 wr ∧ ∃ A1 C1 A2 C2, wr.heap[w7.heap.size]? = some (.cells #[.int .u8 6, .bool false, .int .i64 0, .string ⟨#[]⟩, .slice A1 0 C1, .slice A2 f.len C2] 27 (0, 0)) ∧
 RV wr (w7.heap.size + 1) wr.heap.size (.mk 6 false 0 Ez .nil f) [.int .u8 6, .bool false, .int .i64 0, .string ⟨#[]⟩, .slice A1 0 C1, .slice A2 f.len C2]
theorem I1 (w : World) {lo hi : Nat} : RV w lo hi (Eg .nil) [.int .u8 6, .bool false, .int .i64 0, .string ⟨#[]⟩, .slice none 0 0, .slice none 0 0] := by
 unfold RV
 exact ⟨none, 0, none, 0, rfl, by decide, by unfold I64; decide, by decide, by decide, by decide, by decide, by decide, Or.inl rfl, Or.inl rfl⟩
theorem MakeAt.next {w7 wr wa w12 : World} {f2 f' : FL} (hf : f2 = f') {a1 a2 : Option Addr} {c1 c2 : Nat} {u0 u1 u2 u3 u4 u5 : Value} (hB : Below w7.heap.size w7 wr) (hq : w7.heap.size < wr.heap.size) (ha : Below wr.heap.size wr wa) (h12 : Below wa.heap.size wa w12) (h8 : wr.heap[w7.heap.size]? = some (.cells #[u0, u1, u2, u3, u4, u5] 27 (0, 0)))
  (hv : RV w12 wa.heap.size w12.heap.size (.mk 6 false 0 Ez .nil f') [.int .u8 6, .bool false, .int .i64 0, .string ⟨#[]⟩, .slice a1 0 c1, .slice a2 f'.len c2]) :
  MakeAt w7 f2 (Ni w12 w7.heap.size (.int .u8 6) (.bool false) (.int .i64 0) (.string ⟨#[]⟩) (.slice a1 0 c1) (.slice a2 f'.len c2)) := by
 have hsa := ha.size
 subst hf
 refine ⟨Ag (Nat.le_refl _) [_, _, _, _, _, _] 0 _ (Aa hB hB.size (Aa ha ha.size h12)), a1, c1, a2, c2, EI (blk (Aa ha ha.size h12) h8), ?_⟩
 exact RV.above (us := [_, _, _, _, _, _]) (o := 0) hv (by omega) (by omega) (Below.refl _ _)
theorem EvPost.nilparts {w w' : World} {f : FL} {x : Ending} (h : EvPost w (.mk 6 false 0 Ez .nil f, 0) x w') : Below w.heap.size w w' ∧ ∃ a1 c1 a2 c2, x = .returned (.tuple #[.agg #[.int .u8 6, .bool false, .int .i64 0, .string ⟨#[]⟩, .slice a1 0 c1, .slice a2 f.len c2], .int .i64 0]) ∧
 RV w' w.heap.size w'.heap.size (.mk 6 false 0 Ez .nil f) [.int .u8 6, .bool false, .int .i64 0, .string ⟨#[]⟩, .slice a1 0 c1, .slice a2 f.len c2] := h.parts
set_option maxHeartbeats 4000000
set_option maxRecDepth 100000
theorem FT (rs : List Rz) (A : Option Addr) (m c : Nat) (ns : List ByteArray) (gn cn : Nat) (row : VT) (r0 r1 r2 r3 r4 r5 : Value) (w : World) (hlen : rs.length ≤ 1000) (hL : Laid w) (hr : RV w 0 w.heap.size row [r0, r1, r2, r3, r4, r5])
   (ha : ∀ w', Below w.heap.size w w' → Calls Tryz.prog 209 #[.slice A m c, .agg #[r0, r1, r2, r3, r4, r5]] w' (BP w' (AV rs)))
   (hns : ∀ i, i < ns.length → w.cell? ⟨gn, i, none⟩ = some (.string (ns.getD i ⟨#[]⟩))) (hgn : gn < w.heap.size) (hsz : ∀ p ∈ ns, p.size ≤ LIM) (hnm : rs.length = 0 ∨ (ns.length = rs.length ∧ Cs ns = true)) :
   Calls Tryz.prog 208 #[.agg #[.slice (some ⟨gn, 0, none⟩) ns.length cn, .slice A m c], .agg #[r0, r1, r2, r3, r4, r5]] w (EvPost w (Cb (some ns) rs)) := by
 have hr0 := hr
 obtain ⟨kr, br, nr, sr, lr, fr, ar1, cr1, ar2, cr2, hre, er, hjx⟩ := RV.mk_parts hr
 simp only [List.cons.injEq, and_true] at er
 obtain ⟨rfl, rfl, rfl, rfl, rfl, rfl⟩ := er
 clear hjx hr hre
 obtain ⟨nl, hnl⟩ : ∃ nl, ns.length = nl := ⟨_, rfl⟩
 rw [hnl]
 obtain ⟨W, hW, h0, h1, h2, hB, hS⟩ := If w (.cells #[.slice (some ⟨gn, 0, none⟩) nl cn, .slice A m c] 135) (.cells #[.int .u8 kr, .bool br, .int .i64 nr, .string sr, .slice ar1 lr.len cr1, .slice ar2 fr.len cr2] 27) Ah
 have hal := ha W hB
 have HCK := Lib.hid (fun (t : VT) (cs : List Value) (w' : World) (hb : Below W.heap.size W w') (hv : RV w' 0 w'.heap.size t cs) => Bu t w' cs 0 w'.heap.size hv (Nat.le_refl _) (hL.below (Aa hB hB.size hb)).tabs)
 have HNS := Lib.hid (fun i (hi : i < ns.length) => Ac hB (hns i hi))
 have HSZ := Lib.hid hsz
 have HB := Lib.hid hB
 have HS := Lib.hid hS
 have H0 := Lib.hid h0
 have H1 := Lib.hid h1
 have H2 := Lib.hid h2
 have HWE := Lib.hid hW
 have HNL := Lib.hid hnl
 have hvl := D5 rs
 have her := Fn rs
 unfold Cb
 generalize AV rs = r at *
 clear ha hL hr0 hW h0 h1 h2 hB hS hns hgn hsz hnl
 cases r with
 | error e =>
   have hal2 : Calls Tryz.prog 209 #[.slice A m c, .agg #[.int .u8 kr, .bool br, .int .i64 nr, .string sr, .slice ar1 lr.len cr1, .slice ar2 fr.len cr2]] W (fun x w' => Below W.heap.size W w' ∧ x = .returned (.tuple #[.slice none 0 0, .int .i64 e])) := hal
   have HAL := Lib.hid hal2
   have hne : (e != 0) = true := by simpa using her e rfl
   clear hal hal2 her hvl hnm
   show Calls _ _ _ _ (EvPost w (Am, e))
   go_enter Tryz.func208, Tryz.ntmps208
   go_upto_region 1 with (fail)
   have hw := HWE.out
   rw [hw]
   clear hw HWE
   obtain ⟨p0, p1⟩ := BM H0.out
   obtain ⟨q0, q1, q2, q3, q4, q5, q6⟩ := Ae H1.out
   go_wp2_with (go_at_call 209; (with_reducible refine (HAL.out).mono ?_); rintro e' w7 ⟨hb7, rfl⟩; obtain ⟨z0, z1, z2, z3, z4, z5, z6⟩ := Ae (blk hb7 H2.out); have HB7 := Lib.hid (Aa HB.out HB.out.size hb7); clear hb7)
   refine bodyPost_ret (v := .tuple #[Bs, .int .i64 e]) (by simp [results, Tryz.results208, go_sem, Ai, z0, z1, z2, z3, z4, z5]) rfl ?_
   exact Bx (Ag (by omega) [_, _, _, _, _, _] 0 _ HB7.out)
 | ok vs =>
   have hvl2 := hvl vs rfl
   have hal2 : Calls Tryz.prog 209 #[.slice A m c, .agg #[.int .u8 kr, .bool br, .int .i64 nr, .string sr, .slice ar1 lr.len cr1, .slice ar2 fr.len cr2]] W (fun x w' => Below W.heap.size W w' ∧ ∃ A c, x = .returned (.tuple #[.slice A vs.length c, .int .i64 0]) ∧ vs.length ≤ c ∧ (vs.length = 0 ∨ ∃ b, A = some ⟨b, 0, none⟩ ∧ W.heap.size ≤ b ∧ b < w'.heap.size ∧ RL w' 0 w'.heap.size (Au vs) b 0)) := hal
   have HAL := Lib.hid hal2
   have HVL : Hid (vs.length ≤ 1000) := Lib.hid (by omega)
   have HNV : Hid (vs.length = 0 ∨ (ns.length = vs.length ∧ Cs ns = true)) := Lib.hid (by rw [hvl2]; exact hnm)
   have hfe := L6 (ns := ns) (vs := vs) (HNV.out.imp id (fun h => h.1))
   clear hal hal2 her hvl hvl2 hnm
   show Calls _ _ _ _ (EvPost w (C3 (Eg (BO .nil ns vs))))
   rw [← hfe]
   clear hfe
   obtain ⟨y, hy⟩ : ∃ y, Ao (Eg (Bq ns vs vs.length)) 0 = y := ⟨_, rfl⟩
   unfold C3
   rw [hy]
   by_cases h0 : y = 0
   · subst h0
     rw [if_pos rfl]
     have HY := Lib.hid hy
     clear hy
     go_enter Tryz.func208, Tryz.ntmps208
     go_upto_region 1 with (fail)
     have hw := HWE.out
     rw [hw]
     clear hw HWE
     obtain ⟨p0, p1⟩ := BM H0.out
     obtain ⟨q0, q1, q2, q3, q4, q5, q6⟩ := Ae H1.out
     go_upto_region 5 with (go_at_call 209; (with_reducible refine (HAL.out).mono ?_); rintro e' w7 ⟨hb7, A7, c7, rfl, hc7, hr7⟩; have HB7 := Lib.hid hb7; have HC7 := Lib.hid hc7; have HR7 := Lib.hid hr7; obtain ⟨p0, p1⟩ := BM (Af (o := .cells #[.int .u8 5, .bool false, .int .i64 0, .string ⟨#[]⟩, .slice A7 vs.length c7, .slice none 0 0] 27) (blk hb7 H0.out)); clear hb7 hc7 hr7)
     have h8 := Ab w7 (.cells #[.int .u8 6, .bool false, .int .i64 0, .string ⟨#[]⟩, .slice none 0 0, .slice none 0 0] 27)
     have hb8 := Ad (w := w7) (.cells #[.int .u8 6, .bool false, .int .i64 0, .string ⟨#[]⟩, .slice none 0 0, .slice none 0 0] 27)
     have HAT : Hid (MakeAt w7 (Bq ns vs 0) (w7.alloc (.cells #[.int .u8 6, .bool false, .int .i64 0, .string ⟨#[]⟩, .slice none 0 0, .slice none 0 0] 27))) := Lib.hid ⟨hb8, none, 0, none, 0, h8, I1 _⟩
     have HM7 := Lib.hid (blk HB7.out H0.out)
     have HZ7 := Lib.hid (blk HB7.out H2.out)
     have HN7 := Lib.hid (fun i (hi : i < ns.length) => Ac HB7.out (HNS.out i hi))
     clear h8 hb8 q0 q1 q2 q3 q4 q5 q6 HAL H0 H1 H2 HNS
     go_upto_region 7 with (fail)
     generalize w7.alloc (.cells #[.int .u8 6, .bool false, .int .i64 0, .string ⟨#[]⟩, .slice none 0 0, .slice none 0 0] 27) = W8 at *
     go_wp2_with fail
     go_loopw [31] (fun s31 wr => ∃ i : Nat, s31 = .int .i64 i ∧ i ≤ vs.length ∧ Hid (MakeAt w7 (Bq ns vs i) wr)) (fun s31 _ => vs.length - (intOf s31).toNat)
     case atStart => exact ⟨0, rfl, Nat.zero_le _, HAT⟩
     case round =>
      clear HAT p0 p1
      obtain ⟨i, rfl, hil, HAT⟩ := hrel
      obtain ⟨hbr, A1, C1, A2, C2, h8, hrv⟩ := HAT.out
      have HBR := Lib.hid hbr
      have HRV := Lib.hid hrv
      have HH8 := Lib.hid h8
      have HQ := Lib.hid (lt_of_block h8)
      obtain ⟨p0, p1⟩ := BM ((HBR.out.block _ (lt_of_block HM7.out)).trans HM7.out)
      obtain ⟨z0, z1, z2, z3, z4, z5, z6⟩ := Ae h8
      clear hbr hrv h8 HAT
      by_cases hlt : i < vs.length
      · obtain ⟨hnv, hap⟩ : ns.length = vs.length ∧ Cs ns = true := HNV.out.resolve_left (by omega)
        have hin : i < ns.length := by omega
        have hvl9 := HVL.out
        have hW1 : wrap64 ((i : Int) + 1) = (i : Int) + 1 := IntWalk.wrap64_in _ (by omega)
        have hW2 : IntKind.i64.wrap ((i : Int) + 1) = (i : Int) + 1 := IntWalk.i64_in _ (by omega)
        obtain ⟨hpn, hpl, hpi⟩ := Li ns vs hnv hap i (by omega)
        obtain ⟨hix, hnx⟩ := hpi hin
        have HIX : Hid (BS (ns[i]'hin) (Bq ns vs i) 0 = -1) := Lib.hid hix
        have HNX : Hid (Bq ns vs (i + 1) = CP (ns[i]'hin) (vs[i]'hlt) (Bq ns vs i)) := Lib.hid hnx
        have HPL : Hid ((Bq ns vs i).len = i) := Lib.hid hpl
        have HNSZ := Lib.hid (HSZ.out (ns[i]'hin) (List.getElem_mem _))
        have hnc := (HBR.out.cell (p := ⟨gn, i, none⟩) (by have := World.block_lt_of_cell? w7 ⟨gn, i, none⟩ (HN7.out i hin); exact this)).trans (HN7.out i hin)
        rw [show ns.getD i ⟨#[]⟩ = ns[i]'hin by simp [List.getD, hin]] at hnc
        rcases HR7.out with h00 | ⟨b7, rfl, hb71, hb72, hrl⟩
        · omega
        obtain ⟨v0, v1, v2, v3, v4, v5, e0, e1, e2, e3, e4, e5, hvx⟩ := RL.el (Au vs) b7 0 i (vs[i]'hlt) hrl (D4 vs i hlt)
        rw [Nat.zero_add] at e0 e1 e2 e3 e4 e5
        have e0 := (HBR.out.cell (p := ⟨b7, i * 6, none⟩) hb72).trans e0
        have e1 := (HBR.out.cell (p := ⟨b7, i * 6 + 1, none⟩) hb72).trans e1
        have e2 := (HBR.out.cell (p := ⟨b7, i * 6 + 2, none⟩) hb72).trans e2
        have e3 := (HBR.out.cell (p := ⟨b7, i * 6 + 3, none⟩) hb72).trans e3
        have e4 := (HBR.out.cell (p := ⟨b7, i * 6 + 4, none⟩) hb72).trans e4
        have e5 := (HBR.out.cell (p := ⟨b7, i * 6 + 5, none⟩) hb72).trans e5
        have hvx := (RV.keep (fun _ _ _ => rfl) (Nat.zero_le _) (Nat.le_refl _) _ _ hvx).grow HBR.out
        obtain ⟨kx, bx, nx, sx, lx, fx, ax1, cx1, ax2, cx2, hxe, ex, hjx⟩ := RV.mk_parts hvx
        simp only [List.cons.injEq, and_true] at ex
        obtain ⟨rfl, rfl, rfl, rfl, rfl, rfl⟩ := ex
        have HVX := Lib.hid hvx
        clear hjx hxe hvx hrl hix hnx hpl hpn hpi hnv hap
        generalize ns[i]'hin = name at *
        generalize vs[i]'hlt = xv at *
        go_upto_region 10 with (fail)
        have hba := Ad (w := wr) (.cells #[.int .u8 kx, .bool bx, .int .i64 nx, .string sx, .slice ax1 lx.len cx1, .slice ax2 fx.len cx2] 27)
        have hxa := Ab wr (.cells #[.int .u8 kx, .bool bx, .int .i64 nx, .string sx, .slice ax1 lx.len cx1, .slice ax2 fx.len cx2] 27)
        have HPUT := Lib.hid (fun (w' : World) (hb : Below (wr.alloc (.cells #[.int .u8 kx, .bool bx, .int .i64 nx, .string sx, .slice ax1 lx.len cx1, .slice ax2 fx.len cx2] 27)).heap.size (wr.alloc (.cells #[.int .u8 kx, .bool bx, .int .i64 nx, .string sx, .slice ax1 lx.len cx1, .slice ax2 fx.len cx2] 27)) w') => Mr false 0 Ez (Bq ns vs i) A1 A2 C1 C2 name xv _ _ _ _ _ _ w' ((RV.keep (Same.of_below hba) (Nat.zero_le _) hba.size _ _ HRV.out).grow hb) ((HVX.out.grow hba).grow hb) (by rw [HPL.out]; have := HVL.out; omega) HNSZ.out HIX.out)
        have HBA := Lib.hid hba
        obtain ⟨y0, y1, y2, y3, y4, y5, y6⟩ := Ae hxa
        clear z0 z1 z2 z3 z4 z5 z6 p0 p1 e0 e1 e2 e3 e4 e5
        obtain ⟨p0, p1⟩ := BM (blk hba ((HBR.out.block _ (lt_of_block HM7.out)).trans HM7.out))
        obtain ⟨z0, z1, z2, z3, z4, z5, z6⟩ := Ae (blk hba HH8.out)
        have hnc := Ac hba hnc
        have hiw : (i : Int) < (nl : Int) := by have := HNL.out; have := HNV.out; omega
        generalize wr.alloc (.cells #[.int .u8 kx, .bool bx, .int .i64 nx, .string sx, .slice ax1 lx.len cx1, .slice ax2 fx.len cx2] 27) = wa at *
        clear hba hxa
        go_region_with (go_at_call 210; (refine (HPUT.out _ (Below.drew (Below.refl _ _))).mono ?_); intro e' w12 hev; obtain ⟨hb12, a1, d1, a2, d2, rfl, hv12⟩ := hev.nilparts; have hb12 := Aa (Below.drew (Below.refl wa.heap.size wa)) (Nat.le_refl _) hb12; have HB12 := Lib.hid hb12; have HV12 := Lib.hid hv12; clear p0 p1 z0 z1 z2 z3 z4 z5 z6 y0 y1 y2 y3 y4 y5 y6; obtain ⟨z0, z1, z2, z3, z4, z5, z6⟩ := Ae (blk hb12 (blk HBA.out HH8.out)); clear hev hb12 hv12)
        all_goals
          have hc := MakeAt.next HNX.out HBR.out HQ.out HBA.out HB12.out HH8.out HV12.out
          have HCD := Lib.hid hc
          clear hc
          go_wp2_with fail
          go_roundw
          case rel => exact ⟨i + 1, by go_num, by omega, HCD⟩
          case measure => simp [intOf, hW1]; omega
      · obtain rfl : i = vs.length := by omega
        have hbw := Aa HB7.out HB7.out.size HBR.out
        have hck := HCK.out _ _ wr hbw (RV.keep (Same.of_below (Below.refl _ _)) (Nat.zero_le _) (Nat.le_refl _) _ _ HRV.out)
        have hck2 := hck.mono (fun x w' h => (HY.out ▸ h : x = .returned (.int .i64 0) ∧ Below wr.heap.size wr w'))
        have HK := Lib.hid hck2
        have HH2 := Lib.hid ((HBR.out.block _ (lt_of_block HZ7.out)).trans HZ7.out)
        have HBW := Lib.hid (Aa HB.out HB.out.size hbw)
        have HBW7 := Lib.hid HB7.out.size
        clear hbw hck hck2 HY HCK HR7 HC7 HVL
        generalize (Bq ns vs vs.length).len = fl at *
        go_wp2_with (go_at_call 17; (with_reducible refine (HK.out).mono ?_); rintro e' w9 ⟨rfl, hb9⟩; have HB9 := Lib.hid hb9; obtain ⟨y0, y1, y2, y3, y4, y5, y6⟩ := Ae (blk hb9 HH2.out); clear p0 p1 z0 z1 z2 z3 z4 z5 z6; obtain ⟨z0, z1, z2, z3, z4, z5, z6⟩ := Ae (blk hb9 HH8.out); clear hb9)
        refine bodyPost_ret (v := .tuple #[.agg #[.int .u8 6, .bool false, .int .i64 0, .string ⟨#[]⟩, .slice A1 0 C1, .slice A2 fl C2], .int .i64 0]) (by simp [results, Tryz.results208, go_sem, Ai, y0, y1, y2, y3, y4, y5]) rfl ?_
        have hbz := Aa HBW.out HBW.out.size HB9.out
        exact ⟨Ag (by omega) [_, _, _, _, _, _] 0 _ hbz, _, _, _, _, _, _, rfl, RV.above (us := [_, _, _, _, _, _]) (o := 0) (RV.keep (Same.of_below HB9.out) (Nat.le_refl _) HB9.out.size _ _ HRV.out) (by have := HS.out; have := HBW7.out; omega) (by have := HS.out; have := HBW7.out; omega) (Below.refl _ _)⟩
   · rw [if_neg h0]
     have hn0 : (y != 0) = true := by simpa using h0
     have HY := Lib.hid hy
     clear hy h0
     go_enter Tryz.func208, Tryz.ntmps208
     go_upto_region 1 with (fail)
     have hw := HWE.out
     rw [hw]
     clear hw HWE
     obtain ⟨p0, p1⟩ := BM H0.out
     obtain ⟨q0, q1, q2, q3, q4, q5, q6⟩ := Ae H1.out
     go_upto_region 5 with (go_at_call 209; (with_reducible refine (HAL.out).mono ?_); rintro e' w7 ⟨hb7, A7, c7, rfl, hc7, hr7⟩; have HB7 := Lib.hid hb7; have HC7 := Lib.hid hc7; have HR7 := Lib.hid hr7; obtain ⟨p0, p1⟩ := BM (Af (o := .cells #[.int .u8 5, .bool false, .int .i64 0, .string ⟨#[]⟩, .slice A7 vs.length c7, .slice none 0 0] 27) (blk hb7 H0.out)); clear hb7 hc7 hr7)
     have h8 := Ab w7 (.cells #[.int .u8 6, .bool false, .int .i64 0, .string ⟨#[]⟩, .slice none 0 0, .slice none 0 0] 27)
     have hb8 := Ad (w := w7) (.cells #[.int .u8 6, .bool false, .int .i64 0, .string ⟨#[]⟩, .slice none 0 0, .slice none 0 0] 27)
     have HAT : Hid (MakeAt w7 (Bq ns vs 0) (w7.alloc (.cells #[.int .u8 6, .bool false, .int .i64 0, .string ⟨#[]⟩, .slice none 0 0, .slice none 0 0] 27))) := Lib.hid ⟨hb8, none, 0, none, 0, h8, I1 _⟩
     have HM7 := Lib.hid (blk HB7.out H0.out)
     have HZ7 := Lib.hid (blk HB7.out H2.out)
     have HN7 := Lib.hid (fun i (hi : i < ns.length) => Ac HB7.out (HNS.out i hi))
     clear h8 hb8 q0 q1 q2 q3 q4 q5 q6 HAL H0 H1 H2 HNS
     go_upto_region 7 with (fail)
     generalize w7.alloc (.cells #[.int .u8 6, .bool false, .int .i64 0, .string ⟨#[]⟩, .slice none 0 0, .slice none 0 0] 27) = W8 at *
     go_wp2_with fail
     go_loopw [31] (fun s31 wr => ∃ i : Nat, s31 = .int .i64 i ∧ i ≤ vs.length ∧ Hid (MakeAt w7 (Bq ns vs i) wr)) (fun s31 _ => vs.length - (intOf s31).toNat)
     case atStart => exact ⟨0, rfl, Nat.zero_le _, HAT⟩
     case round =>
      clear HAT p0 p1
      obtain ⟨i, rfl, hil, HAT⟩ := hrel
      obtain ⟨hbr, A1, C1, A2, C2, h8, hrv⟩ := HAT.out
      have HBR := Lib.hid hbr
      have HRV := Lib.hid hrv
      have HH8 := Lib.hid h8
      have HQ := Lib.hid (lt_of_block h8)
      obtain ⟨p0, p1⟩ := BM ((HBR.out.block _ (lt_of_block HM7.out)).trans HM7.out)
      obtain ⟨z0, z1, z2, z3, z4, z5, z6⟩ := Ae h8
      clear hbr hrv h8 HAT
      by_cases hlt : i < vs.length
      · obtain ⟨hnv, hap⟩ : ns.length = vs.length ∧ Cs ns = true := HNV.out.resolve_left (by omega)
        have hin : i < ns.length := by omega
        have hvl9 := HVL.out
        have hW1 : wrap64 ((i : Int) + 1) = (i : Int) + 1 := IntWalk.wrap64_in _ (by omega)
        have hW2 : IntKind.i64.wrap ((i : Int) + 1) = (i : Int) + 1 := IntWalk.i64_in _ (by omega)
        obtain ⟨hpn, hpl, hpi⟩ := Li ns vs hnv hap i (by omega)
        obtain ⟨hix, hnx⟩ := hpi hin
        have HIX : Hid (BS (ns[i]'hin) (Bq ns vs i) 0 = -1) := Lib.hid hix
        have HNX : Hid (Bq ns vs (i + 1) = CP (ns[i]'hin) (vs[i]'hlt) (Bq ns vs i)) := Lib.hid hnx
        have HPL : Hid ((Bq ns vs i).len = i) := Lib.hid hpl
        have HNSZ := Lib.hid (HSZ.out (ns[i]'hin) (List.getElem_mem _))
        have hnc := (HBR.out.cell (p := ⟨gn, i, none⟩) (by have := World.block_lt_of_cell? w7 ⟨gn, i, none⟩ (HN7.out i hin); exact this)).trans (HN7.out i hin)
        rw [show ns.getD i ⟨#[]⟩ = ns[i]'hin by simp [List.getD, hin]] at hnc
        rcases HR7.out with h00 | ⟨b7, rfl, hb71, hb72, hrl⟩
        · omega
        obtain ⟨v0, v1, v2, v3, v4, v5, e0, e1, e2, e3, e4, e5, hvx⟩ := RL.el (Au vs) b7 0 i (vs[i]'hlt) hrl (D4 vs i hlt)
        rw [Nat.zero_add] at e0 e1 e2 e3 e4 e5
        have e0 := (HBR.out.cell (p := ⟨b7, i * 6, none⟩) hb72).trans e0
        have e1 := (HBR.out.cell (p := ⟨b7, i * 6 + 1, none⟩) hb72).trans e1
        have e2 := (HBR.out.cell (p := ⟨b7, i * 6 + 2, none⟩) hb72).trans e2
        have e3 := (HBR.out.cell (p := ⟨b7, i * 6 + 3, none⟩) hb72).trans e3
        have e4 := (HBR.out.cell (p := ⟨b7, i * 6 + 4, none⟩) hb72).trans e4
        have e5 := (HBR.out.cell (p := ⟨b7, i * 6 + 5, none⟩) hb72).trans e5
        have hvx := (RV.keep (fun _ _ _ => rfl) (Nat.zero_le _) (Nat.le_refl _) _ _ hvx).grow HBR.out
        obtain ⟨kx, bx, nx, sx, lx, fx, ax1, cx1, ax2, cx2, hxe, ex, hjx⟩ := RV.mk_parts hvx
        simp only [List.cons.injEq, and_true] at ex
        obtain ⟨rfl, rfl, rfl, rfl, rfl, rfl⟩ := ex
        have HVX := Lib.hid hvx
        clear hjx hxe hvx hrl hix hnx hpl hpn hpi hnv hap
        generalize ns[i]'hin = name at *
        generalize vs[i]'hlt = xv at *
        go_upto_region 10 with (fail)
        have hba := Ad (w := wr) (.cells #[.int .u8 kx, .bool bx, .int .i64 nx, .string sx, .slice ax1 lx.len cx1, .slice ax2 fx.len cx2] 27)
        have hxa := Ab wr (.cells #[.int .u8 kx, .bool bx, .int .i64 nx, .string sx, .slice ax1 lx.len cx1, .slice ax2 fx.len cx2] 27)
        have HPUT := Lib.hid (fun (w' : World) (hb : Below (wr.alloc (.cells #[.int .u8 kx, .bool bx, .int .i64 nx, .string sx, .slice ax1 lx.len cx1, .slice ax2 fx.len cx2] 27)).heap.size (wr.alloc (.cells #[.int .u8 kx, .bool bx, .int .i64 nx, .string sx, .slice ax1 lx.len cx1, .slice ax2 fx.len cx2] 27)) w') => Mr false 0 Ez (Bq ns vs i) A1 A2 C1 C2 name xv _ _ _ _ _ _ w' ((RV.keep (Same.of_below hba) (Nat.zero_le _) hba.size _ _ HRV.out).grow hb) ((HVX.out.grow hba).grow hb) (by rw [HPL.out]; have := HVL.out; omega) HNSZ.out HIX.out)
        have HBA := Lib.hid hba
        obtain ⟨y0, y1, y2, y3, y4, y5, y6⟩ := Ae hxa
        clear z0 z1 z2 z3 z4 z5 z6 p0 p1 e0 e1 e2 e3 e4 e5
        obtain ⟨p0, p1⟩ := BM (blk hba ((HBR.out.block _ (lt_of_block HM7.out)).trans HM7.out))
        obtain ⟨z0, z1, z2, z3, z4, z5, z6⟩ := Ae (blk hba HH8.out)
        have hnc := Ac hba hnc
        have hiw : (i : Int) < (nl : Int) := by have := HNL.out; have := HNV.out; omega
        generalize wr.alloc (.cells #[.int .u8 kx, .bool bx, .int .i64 nx, .string sx, .slice ax1 lx.len cx1, .slice ax2 fx.len cx2] 27) = wa at *
        clear hba hxa
        go_region_with (go_at_call 210; (refine (HPUT.out _ (Below.drew (Below.refl _ _))).mono ?_); intro e' w12 hev; obtain ⟨hb12, a1, d1, a2, d2, rfl, hv12⟩ := hev.nilparts; have hb12 := Aa (Below.drew (Below.refl wa.heap.size wa)) (Nat.le_refl _) hb12; have HB12 := Lib.hid hb12; have HV12 := Lib.hid hv12; clear p0 p1 z0 z1 z2 z3 z4 z5 z6 y0 y1 y2 y3 y4 y5 y6; obtain ⟨z0, z1, z2, z3, z4, z5, z6⟩ := Ae (blk hb12 (blk HBA.out HH8.out)); clear hev hb12 hv12)
        all_goals
          have hc := MakeAt.next HNX.out HBR.out HQ.out HBA.out HB12.out HH8.out HV12.out
          have HCD := Lib.hid hc
          clear hc
          go_wp2_with fail
          go_roundw
          case rel => exact ⟨i + 1, by go_num, by omega, HCD⟩
          case measure => simp [intOf, hW1]; omega
      · obtain rfl : i = vs.length := by omega
        have hbw := Aa HB7.out HB7.out.size HBR.out
        have hck := HCK.out _ _ wr hbw (RV.keep (Same.of_below (Below.refl _ _)) (Nat.zero_le _) (Nat.le_refl _) _ _ HRV.out)
        have hck2 := hck.mono (fun x w' h => (HY.out ▸ h : x = .returned (.int .i64 y) ∧ Below wr.heap.size wr w'))
        have HK := Lib.hid hck2
        have HH2 := Lib.hid ((HBR.out.block _ (lt_of_block HZ7.out)).trans HZ7.out)
        have HBW := Lib.hid (Aa HB.out HB.out.size hbw)
        have HBW7 := Lib.hid HB7.out.size
        clear hbw hck hck2 HY HCK HR7 HC7 HVL
        generalize (Bq ns vs vs.length).len = fl at *
        go_wp2_with (go_at_call 17; (with_reducible refine (HK.out).mono ?_); rintro e' w9 ⟨rfl, hb9⟩; have HB9 := Lib.hid hb9; obtain ⟨y0, y1, y2, y3, y4, y5, y6⟩ := Ae (blk hb9 HH2.out); clear p0 p1 z0 z1 z2 z3 z4 z5 z6; obtain ⟨z0, z1, z2, z3, z4, z5, z6⟩ := Ae (blk hb9 HH8.out); clear hb9)
        refine bodyPost_ret (v := .tuple #[Bs, .int .i64 y]) (by simp [results, Tryz.results208, go_sem, Ai, y0, y1, y2, y3, y4, y5]) rfl ?_
        exact Bx (Ag (by omega) [_, _, _, _, _, _] 0 _ (Aa HBW.out HBW.out.size HB9.out))
theorem KU (S : Nat → Prop) (fs : List (VT → Rz)) (A : Option Addr) (c : Nat) (ns : List ByteArray) (gn cn : Nat) (row : VT) (r0 r1 r2 r3 r4 r5 : Value) (w : World) (hN : NodeRow S w fs A) (hlen : fs.length ≤ 1000) (hL : Laid w) (hr : RV w 0 w.heap.size row [r0, r1, r2, r3, r4, r5])
  (hns : ∀ i, i < ns.length → w.cell? ⟨gn, i, none⟩ = some (.string (ns.getD i ⟨#[]⟩))) (hgn : gn < w.heap.size) (hsz : ∀ p ∈ ns, p.size ≤ LIM) (hnm : fs.length = 0 ∨ (ns.length = fs.length ∧ Cs ns = true)) :
  Calls Tryz.prog 208 #[.agg #[.slice (some ⟨gn, 0, none⟩) ns.length cn, .slice A fs.length c], .agg #[r0, r1, r2, r3, r4, r5]] w (EvPost w (Cb (some ns) (fs.map fun f => f row))) :=
 FT (fs.map fun f => f row) A fs.length c ns gn cn row r0 r1 r2 r3 r4 r5 w (by rw [List.length_map]; exact hlen) hL hr (fun w' hb => (FY S fs A c row r0 r1 r2 r3 r4 r5 w' (hN.later (Later.of_below hb)) hlen (hL.below hb) (hr.grow hb)).mono fun _ _ h => h.weak) hns hgn hsz (by rw [List.length_map]; exact hnm)
end Go.Proofs.YtbemgcjckchdjaaGreatDoor
