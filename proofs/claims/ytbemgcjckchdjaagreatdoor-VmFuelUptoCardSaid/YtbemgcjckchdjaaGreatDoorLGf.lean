import Derived.Test.YtbemgcjckchdjaaGreatDoorLGa
import Derived.Test.YtbemgcjckchdjaaGreatDoorLGd
import Derived.Test.YtbemgcjckchdjaaGreatDoorLRc
/- (*vm.machine).step. -/
namespace Go.Proofs.YtbemgcjckchdjaaGreatDoor
open Go.RowKit
set_option linter.unusedSimpArgs false
set_option linter.unusedVariables false
theorem RL.keepx {w w' : World} {lo hi B : Nat} (hs : Same B w w') (hh : hi ≤ B) : ∀ (l : VL) (b o : Nat), b < B → RL w lo hi l b o → RL w' lo hi l b o
 | .nil, _, _, _, _ => by unfold RL; trivial
 | .cons t r, b, o, hb, h => by
   unfold RL at h ⊢
   obtain ⟨⟨v0, v1, v2, v3, v4, v5, e0, e1, e2, e3, e4, e5, hv⟩, hr⟩ := h
   have hs' : Same hi w w' := fun b o h => hs b o (Nat.lt_of_lt_of_le h hh)
   exact ⟨⟨v0, v1, v2, v3, v4, v5, (hs b _ hb).trans e0, (hs b _ hb).trans e1, (hs b _ hb).trans e2, (hs b _ hb).trans e3, (hs b _ hb).trans e4, (hs b _ hb).trans e5, RV.keep hs' (Nat.le_refl _) (Nat.le_refl _) _ _ hv⟩, RL.keepx hs hh r b (o + 6) hb hr⟩
theorem RowX.keep {lo lo1 : Nat} {w w' : World} {us : List VT} {A : Option Addr} (h : RowX lo lo1 w us A) (hl : lo1 ≤ w.heap.size) (hb : Below w.heap.size w w') : RowX lo lo1 w' us A := by
 rcases h with h | ⟨b, o, e, hlt, hr⟩
 · exact Or.inl h
 · exact Or.inr ⟨b, o, e, Nat.lt_of_lt_of_le hlt hb.size, RL.keepx (Same.of_below hb) hl _ b o hlt hr⟩
theorem Mach.same {M hi : Nat} {w w' : World} {row : VT} {vs : List VT} {c : Nat} {f n : Int} (h : Mach M hi w row vs c f n) (hs : ∀ b, b < hi ∨ b ≤ M → w'.heap[b]? = w.heap[b]?) (hsz : w.heap.size ≤ w'.heap.size) : Mach M hi w' row vs c f n := by
 obtain ⟨A, r0, r1, r2, r3, r4, r5, h1, h2, h3, hh, h4⟩ := h
 have hc : ∀ b o, b < hi ∨ b ≤ M → w'.cell? ⟨b, o, none⟩ = w.cell? ⟨b, o, none⟩ := fun b o hb => World.cell?_of_block (a := ⟨b, o, none⟩) (hs b hb)
 refine ⟨A, r0, r1, r2, r3, r4, r5, (hs M (Or.inr (Nat.le_refl _))).trans h1, RV.keep (fun b o hb => hc b o (Or.inr (Nat.le_of_lt hb))) (Nat.le_refl _) (Nat.le_refl _) _ _ h2, h3, Nat.le_trans hh hsz, ?_⟩
 rcases h4 with h4 | ⟨b, e, hM, hl, hr⟩
 · exact Or.inl h4
 · exact Or.inr ⟨b, e, hM, hl, RL.keepx (B := hi) (fun b o hb => hc b o (Or.inl hb)) (Nat.le_refl _) _ b 0 hl hr⟩
theorem Gi {b g : Nat} (hne : b ≠ g) : ∀ (vs : List Value) (o : Nat) (w : World), (w.setCells g o vs).heap[b]? = w.heap[b]?
 | [], _, _ => rfl
 | v :: r, o, w => by rw [World.setCells, Gi hne r, Below.heap_setCell _ _ _ _ hne]
theorem Gw {M B : Nat} {a : World} {g : Nat} (hg : a.heap.size ≤ g) : ∀ (vs : List Value) (o : Nat) (w : World), MFr M a w → MFr M a (w.setCells g o vs)
 | [], _, _, h => h
 | v :: r, o, w, h => Gw (B := B) hg r (o + 1) _ ⟨h.1, h.2.1, h.2.2.1, by simpa [World.setCell] using h.2.2.2.1, fun b hb hne => (Below.heap_setCell _ _ _ _ (by show b ≠ g; omega)).trans (h.2.2.2.2 b hb hne)⟩
def IM (M hi : Nat) (row : VT) (vs : List VT) (f nx : Int) (t : VT) (w wx : World) (g : Nat) : Prop :=
 Mach M hi wx row vs vs.length f nx ∧ MFr M w wx ∧ w.heap.size ≤ g ∧ ∃ v0 v1 v2 v3 v4 v5, wx.heap[g]? = some (.cells #[v0, v1, v2, v3, v4, v5] 27 (0, 0)) ∧ RV wx (M + 1) wx.heap.size t [v0, v1, v2, v3, v4, v5]
section
variable {M hi : Nat} {row : VT} {vs : List VT} {f nx : Int} {t : VT} {w w5 w6 w8 : World} {v0 v1 v2 v3 v4 v5 : Value}
theorem QJ {n g : Nat} (hm : Mach M hi w5 row vs vs.length f nx) (hf : MFr M w w5) (hb : Below w5.heap.size w5 w8) (hh : hi ≤ w.heap.size) (hM : M < w.heap.size) (hz : w8.heap[g]? = some Ah) (hg : w.heap.size ≤ g) (hgn : g < n) (hn8 : n ≤ w8.heap.size) (hv : RQ w8 (Two (M + 1) hi n w8.heap.size) t [v0, v1, v2, v3, v4, v5]) :
   IM M hi row vs f nx t w (Ni w8 g v0 v1 v2 v3 v4 v5) g := by
 have hsz := Ay (g := g) [v0, v1, v2, v3, v4, v5] 0 w8
 have hm8 := hm.keep hb
 have hf8 := hf.trans (MFr.of_below hb)
 refine ⟨hm8.same (fun b hb => Gi (by omega) [v0, v1, v2, v3, v4, v5] 0 w8) (Nat.le_of_eq hsz.symm), Gw (B := 0) hg [v0, v1, v2, v3, v4, v5] 0 w8 hf8, hg, v0, v1, v2, v3, v4, v5, EI hz, ?_⟩
 show RV (w8.setCells g 0 [v0, v1, v2, v3, v4, v5]) (M + 1) (w8.setCells g 0 [v0, v1, v2, v3, v4, v5]).heap.size t _
 rw [hsz]
 refine RQ.to_rv (Q := Two (M + 1) hi n w8.heap.size) (fun b hb => ?_) t _ (RQ.keep (fun b o hb => Ar ?_ _ _ _ _) (fun _ h => h) t _ hv)
 · rcases hb with h | h <;> have := hf8.size <;> omega
 · rcases hb with h | h <;> omega
theorem SR {n : Nat} (hm : Mach M hi w5 row vs vs.length f nx) (hf : MFr M w w5) (hb : Below w5.heap.size w5 w8) (hh : hi ≤ w.heap.size) (hM : M < w.heap.size) (hn : M < n) (hv : RQ w8 (Two (M + 1) hi n w8.heap.size) t [v0, v1, v2, v3, v4, v5]) :
  IM M hi row vs f nx t w (w8.alloc (.cells #[v0, v1, v2, v3, v4, v5] 27)) w8.heap.size := by
 have hf8 := hf.trans (MFr.of_below hb)
 have hb9 := Ad (w := w8) (.cells #[v0, v1, v2, v3, v4, v5] 27)
 refine ⟨(hm.keep hb).keep hb9, hf8.trans (MFr.of_below hb9), hf8.size, v0, v1, v2, v3, v4, v5, Ab _ _, ?_⟩
 refine RV.keep (Same.of_below hb9) (Nat.le_refl _) hb9.size t _ (RQ.to_rv (Q := Two (M + 1) hi n w8.heap.size) (fun b hb => ?_) t _ hv)
 rcases hb with h | h <;> have := hf8.size <;> omega
end
def MRow (M : Nat) (w : World) (r0 r1 r2 r3 r4 r5 : Value) : Prop := w.cell? ⟨M, 1, none⟩ = some r0 ∧ w.cell? ⟨M, 2, none⟩ = some r1 ∧ w.cell? ⟨M, 3, none⟩ = some r2 ∧ w.cell? ⟨M, 4, none⟩ = some r3 ∧ w.cell? ⟨M, 5, none⟩ = some r4 ∧ w.cell? ⟨M, 6, none⟩ = some r5
theorem MRow.alloc {M : Nat} {w : World} {r0 r1 r2 r3 r4 r5 : Value} (h : MRow M w r0 r1 r2 r3 r4 r5) (o : Obj) : MRow M (w.alloc o) r0 r1 r2 r3 r4 r5 := by
 obtain ⟨h1, h2, h3, h4, h5, h6⟩ := h
 exact ⟨Ac (Ad o) h1, Ac (Ad o) h2, Ac (Ad o) h3, Ac (Ad o) h4, Ac (Ad o) h5, Ac (Ad o) h6⟩
theorem MRow.pop {M : Nat} {w w5 : World} {r0 r1 r2 r3 r4 r5 : Value} (h : MRow M w r0 r1 r2 r3 r4 r5) (ho : ∀ o, 0 < o → w5.cell? ⟨M, o, none⟩ = w.cell? ⟨M, o, none⟩) : MRow M w5 r0 r1 r2 r3 r4 r5 :=
 ⟨(ho _ (by decide)).trans h.1, (ho _ (by decide)).trans h.2.1, (ho _ (by decide)).trans h.2.2.1, (ho _ (by decide)).trans h.2.2.2.1, (ho _ (by decide)).trans h.2.2.2.2.1, (ho _ (by decide)).trans h.2.2.2.2.2⟩
theorem MachW.of {M hi : Nat} {w : World} {row : VT} {vs : List VT} {n : Nat} {f nx : Int} (hn : vs.length = n) (h : Mach M hi w row vs n f nx) : Mach M hi w row vs vs.length f nx := by rw [hn]; exact h
set_option maxHeartbeats 4000000 in
set_option maxRecDepth 100000 in
theorem LG (M hi : Nat) (row : VT) (vs : List VT) (c : Nat) (f nx : Int) (x : IT) (w w0 : World) (hM : Mach M hi w row vs c f nx) (hk : x.s.takes ≤ (vs.length : Int)) (hlen : vs.length ≤ 1000) (hc : c ≤ maxLen) (hs : Be x.s) (hok : x.s.ok = true) (h21 : x.s.k < 21) (hL : Laid w0) (hbw : Below w0.heap.size w0 w) (hM0 : w0.heap.size ≤ M) :
  Calls Tryz.prog 45 #[.pointer (some ⟨M, 0, none⟩), IW x] w (MOp M row (vs.take (vs.length - x.s.takes.toNat) ++ [(BZ x.s row (vs.drop (vs.length - x.s.takes.toNat))).1]) f nx (BZ x.s row (vs.drop (vs.length - x.s.takes.toNat))).2 w) := by
 have htr := Bn x.s hok
 obtain ⟨k, hkk⟩ : ∃ k : Nat, x.s.takes = (k : Int) := ⟨x.s.takes.toNat, by omega⟩
 rw [hkk] at hk ⊢
 rw [show ((k : Int)).toNat = k by omega]
 have hk : k ≤ vs.length := by omega
 obtain ⟨us, hus⟩ : ∃ us, vs.drop (vs.length - k) = us := ⟨_, rfl⟩
 obtain ⟨ws, hws⟩ : ∃ ws, vs.take (vs.length - k) = ws := ⟨_, rfl⟩
 have hul : us.length = k := by rw [← hus, List.length_drop]; omega
 have hwl : ws.length = vs.length - k := by rw [← hws, List.length_take]; omega
 rw [hus, hws]
 have hb0 := Ad (w := w) (BK x)
 have hx0 := Ab w (BK x)
 have hml := hM.lt
 have hs0 : (w.alloc (BK x)).heap.size = w.heap.size + 1 := by simp
 have hM1 := hM.keep hb0
 have hhi : hi ≤ w.heap.size := by obtain ⟨_, _, _, _, _, _, _, _, _, _, h, _⟩ := hM; exact h
 have HRES := Lib.hid (show ∃ t y, BZ x.s row us = (t, y) from ⟨_, _, rfl⟩)
 obtain ⟨t, y, hty⟩ := HRES.out
 obtain ⟨kt, bt, nt, st, lt, ft⟩ := t
 have HTY := Lib.hid hty
 rw [hty]
 have HB0 := Lib.hid hb0
 have HX0 := Lib.hid hx0
 have HM1 := Lib.hid hM1
 have HPOP := Lib.hid (fun (w' : World) (hb : Below (w.alloc (BK x)).heap.size (w.alloc (BK x)) w') => Gr M hi row vs c f nx k w' (hM1.keep hb) hk hlen hc)
 have HST := Lib.hid hs
 have HLD := Lib.hid (fun (w' : World) (hb : MFr M (w.alloc (BK x)) w') => hL.below ((Aa hbw hbw.size hb0).trans ((MFr.below hb (B := (w0.heap.size)) hM0 (by omega)))))
 have HTK := Lib.hid (Dg x.s.k x.s.t x.s.n (w.alloc (BK x)) HST.out.2.1 (HLD.out _ (MFr.refl M _)))
 rw [Df x.s hok, hkk] at HTK
 obtain ⟨A0, r0, r1, r2, r3, r4, r5, hB, hr, _⟩ := HM1.out
 have HBM := Lib.hid hB
 have HA := Lib.hid (fun (w5 w6 : World) (A' : Option Addr) (c' : Nat) (hm5 : Mach M hi w5 row ws ws.length f nx) (hf5 : MFr M (w.alloc (BK x)) w5) (hb6 : Below w5.heap.size w5 w6) (hx5 : RowX (M + 1) hi w5 us A') => FZ (M + 1) hi x.s us A' c' row r0 r1 r2 r3 r4 r5 w6 hs hok (hkk.trans (by rw [hul])) h21 ((HLD.out w5 hf5).below hb6)
  (RV.keep (fun b o hb => World.cell?_of_block (a := ⟨b, o, none⟩) ((hb6.block b (by have := hf5.size; omega)).trans (hf5.block (b := b) (by omega) (by omega)))) (Nat.le_refl _) (by have := hf5.size; have := hb6.size; omega) row _ hr)
  (by have := hf5.size; have := hb6.size; omega) (hx5.keep (by have := hf5.size; omega) hb6))
 rw [hul, hty] at HA
 have HSZ := Lib.hid hs0
 have HLEN := Lib.hid hlen
 have HUS := Lib.hid hus
 have HWS := Lib.hid hws
 have HWL := Lib.hid hwl
 clear hM hs hok h21 hL hbw hM0 htr hkk hb0 hx0 hM1 hB hr hty HRES hk hlen hc hs0 hus hws hul HST HLD
 go_enter Tryz.func45, Tryz.ntmps45
 go_upto_region 1 with (fail)
 generalize w.alloc (BK x) = W at *
 obtain ⟨x0, x1, x2, x3, x4⟩ := AF HX0.out
 go_upto_region 2 with (go_at_call 20; (with_reducible refine HTK.out.mono ?_); rintro e w3 ⟨rfl, hb3⟩; have HB3 := Lib.hid hb3; clear hb3)
 have hp0 := fun (w' : World) (hb : Below w3.heap.size w3 w') => HPOP.out w' (Aa HB3.out HB3.out.size hb)
 have ha0 := fun (w5 w6 : World) (A' : Option Addr) (c' : Nat) (hm5 : Mach M hi w5 row ws ws.length f nx) (hf5 : MFr M w3 w5) => HA.out w5 w6 A' c' hm5 ((MFr.of_below HB3.out).trans hf5)
 have hbm3 := blk HB3.out HBM.out
 have hx3 := blk HB3.out HX0.out
 have hw3 := Aa HB0.out HB0.out.size HB3.out
 have hl3 := HB3.out.size
 have hs3 := HSZ.out
 clear x0 x1 x2 x3 x4 HB3 HBM HX0 HB0 HPOP HA HSZ HTK HM1
 have HPOP := Lib.hid hp0
 have HA := Lib.hid ha0
 have HW3 := Lib.hid hw3
 have HBM := Lib.hid hbm3
 have HX3 := Lib.hid hx3
 obtain ⟨_, e1, e2, e3, e4, e5, e6, _⟩ := Ei HBM.out
 have HMR : Hid (MRow M w3 r0 r1 r2 r3 r4 r5) := Lib.hid ⟨e1, e2, e3, e4, e5, e6⟩
 have HNE := Lib.hid (show w.heap.size ≠ M by omega)
 clear e1 e2 e3 e4 e5 e6 HBM
 have hl4 : M < w3.heap.size := by omega
 have hl5 : hi ≤ w3.heap.size := by omega
 clear hp0 ha0 hw3 hbm3 hx3
 go_cut [7, 8] (fun s7 s8 wx => ∃ g, s7 = .pointer (some ⟨g, 0, none⟩) ∧ s8 = .int .i64 y ∧ IM M hi row ws f nx (.mk kt bt nt st lt ft) w3 wx g)
 case first =>
  -- <<
  have HDA := Lib.hid (Ad (w := w3) Ah)
  have HDZ := Lib.hid (Ab w3 Ah)
  have HNZ := Lib.hid (show w3.heap.size ≠ M by omega)
  obtain ⟨y1, y2, y3, y4, y5, y6⟩ := HMR.out
  obtain ⟨u1, u2, u3, u4, u5, u6⟩ := MRow.alloc HMR.out Ah
  obtain ⟨x0, x1, x2, x3, x4⟩ := AF HX3.out
  obtain ⟨q0, q1, q2, q3, q4⟩ := AF (Af (o := Ah) HX3.out)
  go_region_with (first | (go_at_call 69; first | ((with_reducible refine (HPOP.out _ (Below.drew (Below.refl _ _))).mono ?_); rintro e w5 ⟨A5, c5, rfl, hkc, hx5, hm5, hf5, ho5⟩; rw [HUS.out] at hx5; rw [HWS.out] at hm5; have hm5 := MachW.of HWL.out hm5; have HF5 := Lib.hid (MFr.trans (MFr.of_below (Below.drew (Below.refl w3.heap.size w3))) hf5); have HMR5 := Lib.hid (MRow.pop HMR.out ho5); have HX5 := Lib.hid (hf5.blk HNE.out HX3.out); have HM5 := Lib.hid hm5; have HRX5 := Lib.hid hx5; clear y1 y2 y3 y4 y5 y6 u1 u2 u3 u4 u5 u6 x0 x1 x2 x3 x4 q0 q1 q2 q3 q4; clear hkc hx5 hm5 hf5 ho5; obtain ⟨y1, y2, y3, y4, y5, y6⟩ := HMR5.out; obtain ⟨u1, u2, u3, u4, u5, u6⟩ := MRow.alloc HMR5.out Ah; obtain ⟨x0, x1, x2, x3, x4⟩ := AF HX5.out; obtain ⟨q0, q1, q2, q3, q4⟩ := AF (Af (o := Ah) HX5.out)) | ((with_reducible refine (HPOP.out _ (Below.drew HDA.out)).mono ?_); rintro e w5 ⟨A5, c5, rfl, hkc, hx5, hm5, hf5, ho5⟩; rw [HUS.out] at hx5; rw [HWS.out] at hm5; have hm5 := MachW.of HWL.out hm5; have HZ5 := Lib.hid (hf5.blk HNZ.out HDZ.out); have HF5 := Lib.hid (MFr.trans (MFr.of_below (Below.drew HDA.out)) hf5); have HMR5 := Lib.hid (MRow.pop (MRow.alloc HMR.out Ah) ho5); have HX5 := Lib.hid (hf5.blk HNE.out (Af (o := Ah) HX3.out)); have HM5 := Lib.hid hm5; have HRX5 := Lib.hid hx5; clear y1 y2 y3 y4 y5 y6 u1 u2 u3 u4 u5 u6 x0 x1 x2 x3 x4 q0 q1 q2 q3 q4; clear hkc hx5 hm5 hf5 ho5; obtain ⟨y1, y2, y3, y4, y5, y6⟩ := HMR5.out; obtain ⟨u1, u2, u3, u4, u5, u6⟩ := MRow.alloc HMR5.out Ah; obtain ⟨x0, x1, x2, x3, x4⟩ := AF HX5.out; obtain ⟨q0, q1, q2, q3, q4⟩ := AF (Af (o := Ah) HX5.out))) | (go_at_call 41; first | ((with_reducible refine (HA.out w5 w5 A5 c5 HM5.out HF5.out (Below.refl _ _) HRX5.out).mono ?_); intro e w8 hev; obtain ⟨hb8, e1, d1, e2, d2, rfl, hv8⟩ := hev.parts;  have HB8 := Lib.hid hb8; have HV8 := Lib.hid hv8; clear hev hb8 hv8; first | (have hz8 := blk HB8.out HZ5.out; obtain ⟨z0, z1, z2, z3, z4, z5, z6⟩ := Ae hz8; clear hz8) | skip) | ((with_reducible refine (HA.out w5 (w5.alloc Ah) A5 c5 HM5.out HF5.out (Ad _) HRX5.out).mono ?_); intro e w8 hev; obtain ⟨hb8, e1, d1, e2, d2, rfl, hv8⟩ := hev.parts;  have HBA8 := Lib.hid hb8; have HV8 := Lib.hid hv8; clear hev hb8 hv8; obtain ⟨z0, z1, z2, z3, z4, z5, z6⟩ := Ae (blk HBA8.out (Ab w5 Ah)))))
  all_goals (go_wp2_with fail)
  all_goals go_meet
  all_goals (refine ⟨_, rfl, rfl, ?_⟩)
  all_goals first | (have hz := blk HB8.out HZ5.out; have hcc := QJ HM5.out HF5.out HB8.out hl5 hl4 hz (Nat.le_refl _) (lt_of_block HZ5.out) HB8.out.size HV8.out; with_reducible exact hcc) | (have hn5 := Nat.lt_of_lt_of_le hl4 HF5.out.size; have hcc := SR HM5.out HF5.out HB8.out hl5 hl4 hn5 HV8.out; with_reducible exact hcc) | (have hcc := QJ HM5.out HF5.out (Aa (Ad _) (Ad _).size HBA8.out) hl5 hl4 (blk HBA8.out (Ab w5 Ah)) HF5.out.size (by simp) HBA8.out.size HV8.out; with_reducible exact hcc)
  -- >>
 case rest =>
  obtain ⟨g, rfl, rfl, hm, hf, hg, v0, v1, v2, v3, v4, v5, hz, hv⟩ := hcut
  have hpu := fun (w' : World) (hb : Below wc.heap.size wc w') => Ea M hi row ws (.mk kt bt nt st lt ft) f nx v0 v1 v2 v3 v4 v5 w' (hm.keep hb) (by have := HWL.out; have := HLEN.out; omega) (RV.mfr hv (MFr.of_below hb))
  have HPU := Lib.hid hpu
  have HFF := Lib.hid ((MFr.of_below HW3.out).trans hf)
  obtain ⟨k', b', n', s', l', f', a1, c1, a2, c2, _, ex, _⟩ := RV.mk_parts hv
  simp only [List.cons.injEq, and_true] at ex
  obtain ⟨rfl, rfl, rfl, rfl, rfl, rfl⟩ := ex
  obtain ⟨z0, z1, z2, z3, z4, z5, z6⟩ := Ae hz
  clear hpu hm hf hg hz hv HPOP HA HX3 HMR
  go_upto_region 3 with (fail)
  go_region_with (go_at_call 70; (with_reducible refine (HPU.out _ (Below.drew (Below.refl _ _))).mono ?_); rintro e w9 ⟨rfl, c9, hc9, hm9, hf9⟩; have HC9 := Lib.hid hc9; have HM9 := Lib.hid hm9; have HF9 := Lib.hid hf9; clear hc9 hm9 hf9)
  go_wp2_with fail
  go_ret
  exact ⟨rfl, _, c9, HC9.out, HM9.out, (HFF.out.trans (MFr.of_below (Below.drew (Below.refl _ _)))).trans HF9.out⟩
end Go.Proofs.YtbemgcjckchdjaaGreatDoor
