import Derived.Test.YtbemgcjckchdjaaGreatDoorLVt
/- value.Same: EqualFunc at values and fields, Same. -/
namespace Go.Proofs.YtbemgcjckchdjaaGreatDoor
open Go.RowKit
set_option linter.unusedSimpArgs false
set_option linter.unusedVariables false
abbrev Ie (N : Nat) : Prop := ∀ t : VT, t.size < N → ∀ (t' : VT) (w : World) (cs cs' : List Value) (hi : Nat), RV w 0 hi t cs → RV w 0 hi t' cs' → hi ≤ w.heap.size →
 Calls Tryz.prog 11 #[.agg cs.toArray, .agg cs'.toArray] w fun x w' => x = .returned (.bool (C5 t t')) ∧ Below w.heap.size w w'
abbrev QN (N : Nat) : Prop := ∀ t : VT, t.size < N → ∀ (t' : VT) (s s' : ByteArray) (w : World) (cs cs' : List Value) (hi : Nat), RV w 0 hi t cs → RV w 0 hi t' cs' → hi ≤ w.heap.size →
 Calls Tryz.prog 28 #[.agg (Value.string s :: cs).toArray, .agg (Value.string s' :: cs').toArray] w fun x w' => x = .returned (.bool (s.toList == s'.toList && C5 t t')) ∧ Below w.heap.size w w'
theorem Ec {a b : Bool} (h : a = b) : Ending.returned (.bool a) = .returned (.bool b) := by rw [h]
theorem M2 {W w1 : World} (hb : Below W.heap.size W w1) : (∀ b o, b < W.heap.size → w1.cell? ⟨b, o, none⟩ = W.cell? ⟨b, o, none⟩) ∧ (∀ b o, b < W.heap.size → w1.frozen? ⟨b, o, none⟩ = W.frozen? ⟨b, o, none⟩) :=
 ⟨fun b o h => hb.cell (p := ⟨b, o, none⟩) h, fun b o h => hb.frozen (p := ⟨b, o, none⟩) h⟩
set_option maxHeartbeats 1000000 in
set_option maxRecDepth 100000 in
theorem L4 (N : Nat) (IH : Ie N) (w : World) (hi : Nat) (l l' : VL) (a1 : Option Addr) (c1 : Nat) (a2 : Option Addr) (c2 : Nat) (hN : l.size < N) (hhi : hi ≤ w.heap.size) (hl : l.len ≤ LIM) (hl' : l'.len ≤ LIM)
   (hr : l.len = 0 ∨ ∃ b o, a1 = some ⟨b, o, none⟩ ∧ 0 ≤ b ∧ b < hi ∧ RL w 0 hi l b o) (hr' : l'.len = 0 ∨ ∃ b o, a2 = some ⟨b, o, none⟩ ∧ 0 ≤ b ∧ b < hi ∧ RL w 0 hi l' b o) :
   Calls Tryz.prog 26 #[.slice a1 l.len c1, .slice a2 l'.len c2, .func (.func 11) #[] #[]] w fun x w' => x = .returned (.bool (Cj l l')) ∧ Below w.heap.size w w' := by
 unfold LIM at hl hl'
 have HIH := Lib.hid IH
 clear IH
 by_cases hlen : l.len = l'.len
 · have hq : ((l.len : Int) != (l'.len : Int)) = false := by simp [hlen]
   have hq2 : (l.len != l'.len) = false := by simp [hlen]
   obtain ⟨r, hr0⟩ : ∃ r, Cj l l' = r := ⟨_, rfl⟩
   rw [hr0]
   have HR := Lib.hid hr0
   have HLEN := Lib.hid hlen
   clear hr0 hlen
   go_enter Tryz.func26, Tryz.ntmps26
   go_wp2
   go_loopw [17] (fun s17 wr => ∃ i : Nat, s17 = .int .i64 i ∧ i ≤ l.len ∧ Hid (Cj (l.drop i) (l'.drop i) = r) ∧ Below w.heap.size w wr) (fun s17 _ => l.len - (intOf s17).toNat)
   case atStart => exact ⟨0, rfl, Nat.zero_le _, Lib.hid (by rw [VL.drop_zero, VL.drop_zero]; exact HR.out), Below.refl _ _⟩
   case round =>
    obtain ⟨i, rfl, hi1, HD, hx⟩ := hrel
    by_cases h1 : i < l.len
    · have hlen := HLEN.out
      rcases hr with h0 | ⟨b1, o1, rfl, _, hb1, hR1⟩
      · omega
      rcases hr' with h0 | ⟨b2, o2, rfl, _, hb2, hR2⟩
      · omega
      obtain ⟨t, ht⟩ := VL.get?_lt l i h1
      obtain ⟨t', ht'⟩ := VL.get?_lt l' i (by omega)
      have h2 : i < l'.len := by omega
      clear hlen
      replace hR1 := RL.keep (Same.of_below (hx.mono hhi)) (Nat.le_refl _) (Nat.le_refl _) l b1 o1 hb1 hR1
      replace hR2 := RL.keep (Same.of_below (hx.mono hhi)) (Nat.le_refl _) (Nat.le_refl _) l' b2 o2 hb2 hR2
      obtain ⟨v0, v1, v2, v3, v4, v5, e0, e1, e2, e3, e4, e5, hv⟩ := RL.at l b1 o1 i t hR1 ht
      obtain ⟨v0', v1', v2', v3', v4', v5', e0', e1', e2', e3', e4', e5', hv'⟩ := RL.at l' b2 o2 i t' hR2 ht'
      obtain ⟨pk, pb, pn, ps, pa1, pl1, pc1, pa2, pl2, pc2, rfl, rfl, rfl, rfl, rfl, rfl⟩ := RV.open6 hv
      obtain ⟨qk, qb, qn, qs, qa1, ql1, qc1, qa2, ql2, qc2, rfl, rfl, rfl, rfl, rfl, rfl⟩ := RV.open6 hv'
      have HS := Lib.hid (Ng l l' i t t' ht ht')
      have hsz := VL.get?_size l i t ht
      have hhr := Nat.le_trans hhi hx.size
      have lb1 : b1 < wr.heap.size := by omega
      have lb2 : b2 < wr.heap.size := by omega
      have ne2 : b2 ≠ wr.heap.size := by omega
      have HC := Lib.hid (fun (w' : World) (hb : Below wr.heap.size wr w') => HIH.out t (by omega) t' w' [.int .u8 pk, .bool pb, .int .i64 pn, .string ps, .slice pa1 pl1 pc1, .slice pa2 pl2 pc2] [.int .u8 qk, .bool qb, .int .i64 qn, .string qs, .slice qa1 ql1 qc1, .slice qa2 ql2 qc2] hi (RV.below hv (hb.mono hhr)) (RV.below hv' (hb.mono hhr)) (Nat.le_trans hhr hb.size))
      have hstep := HD.out
      rw [HS.out] at hstep
      clear hR1 hR2 hv hv' ht ht' HD HS HR
      obtain ⟨z, hzz⟩ : ∃ z, C5 t t' = z := ⟨_, rfl⟩
      rw [hzz] at hstep
      have HX := Lib.hid hx
      have HC2 : Hid (∀ (w' : World), Below wr.heap.size wr w' → Calls _ _ _ w' fun x w2 => x = .returned (.bool z) ∧ Below w'.heap.size w' w2) := Lib.hid (fun w' hb => by have h := HC.out w' hb; rw [hzz] at h; exact h)
      have HSTEP := Lib.hid hstep
      clear hstep hx HC hsz hhr hzz
      cases z with
      | true =>
        go_wp2_with (go_at_call 11; refine (HC2.out _ (Aj _ _)).mono ?_; rintro e w7 ⟨rfl, hb⟩)
        go_roundw
        case rel => exact ⟨i + 1, by go_num, by omega, Lib.hid (by simpa using HSTEP.out), BX HX.out HX.out.size (Aj _ _) hb⟩
        case measure => simp [intOf]; omega
      | false =>
        go_wp2_with (go_at_call 11; refine (HC2.out _ (Aj _ _)).mono ?_; rintro e w7 ⟨rfl, hb⟩)
        go_ret
        exact ⟨Ec (by simpa using HSTEP.out), BX HX.out HX.out.size (Aj _ _) hb⟩
    · have he := HD.out
      have hlen := HLEN.out
      rw [VL.drop_len l i (by omega), VL.drop_len l' i (by omega), Cj] at he
      have HE := Lib.hid he
      clear he hlen HD HR
      go_wp2
      go_ret
      exact ⟨Ec HE.out, hx⟩
 · rw [JH l l' hlen]
   have hq : ((l.len : Int) != (l'.len : Int)) = true := by simp; omega
   have hq2 : (l.len != l'.len) = true := by simpa using hlen
   clear hlen
   go_enter Tryz.func26, Tryz.ntmps26
   go_wp2
   go_ret
   exact ⟨rfl, Below.refl _ _⟩
set_option maxHeartbeats 1000000 in
set_option maxRecDepth 100000 in
theorem L3 (N : Nat) (IH : QN N) (w : World) (hi : Nat) (l l' : FL) (a1 : Option Addr) (c1 : Nat) (a2 : Option Addr) (c2 : Nat) (hN : l.size < N) (hhi : hi ≤ w.heap.size) (hl : l.len ≤ LIM) (hl' : l'.len ≤ LIM)
   (hr : l.len = 0 ∨ ∃ b o, a1 = some ⟨b, o, none⟩ ∧ 0 ≤ b ∧ b < hi ∧ RF w 0 hi l b o) (hr' : l'.len = 0 ∨ ∃ b o, a2 = some ⟨b, o, none⟩ ∧ 0 ≤ b ∧ b < hi ∧ RF w 0 hi l' b o) :
   Calls Tryz.prog 27 #[.slice a1 l.len c1, .slice a2 l'.len c2, .func (.func 28) #[] #[]] w fun x w' => x = .returned (.bool (Ci l l')) ∧ Below w.heap.size w w' := by
 unfold LIM at hl hl'
 have HIH := Lib.hid IH
 clear IH
 by_cases hlen : l.len = l'.len
 · have hq : ((l.len : Int) != (l'.len : Int)) = false := by simp [hlen]
   have hq2 : (l.len != l'.len) = false := by simp [hlen]
   obtain ⟨r, hr0⟩ : ∃ r, Ci l l' = r := ⟨_, rfl⟩
   rw [hr0]
   have HR := Lib.hid hr0
   have HLEN := Lib.hid hlen
   clear hr0 hlen
   go_enter Tryz.func27, Tryz.ntmps27
   go_wp2
   go_loopw [17] (fun s17 wr => ∃ i : Nat, s17 = .int .i64 i ∧ i ≤ l.len ∧ Hid (Ci (l.drop i) (l'.drop i) = r) ∧ Below w.heap.size w wr) (fun s17 _ => l.len - (intOf s17).toNat)
   case atStart => exact ⟨0, rfl, Nat.zero_le _, Lib.hid (by rw [FL.drop_zero, FL.drop_zero]; exact HR.out), Below.refl _ _⟩
   case round =>
    obtain ⟨i, rfl, hi1, HD, hx⟩ := hrel
    by_cases h1 : i < l.len
    · have hlen := HLEN.out
      rcases hr with h0 | ⟨b1, o1, rfl, _, hb1, hR1⟩
      · omega
      rcases hr' with h0 | ⟨b2, o2, rfl, _, hb2, hR2⟩
      · omega
      obtain ⟨⟨s, t⟩, ht⟩ := FL.get?_lt l i h1
      obtain ⟨⟨s', t'⟩, ht'⟩ := FL.get?_lt l' i (by omega)
      have h2 : i < l'.len := by omega
      clear hlen
      replace hR1 := RF.keep (Same.of_below (hx.mono hhi)) (Nat.le_refl _) (Nat.le_refl _) l b1 o1 hb1 hR1
      replace hR2 := RF.keep (Same.of_below (hx.mono hhi)) (Nat.le_refl _) (Nat.le_refl _) l' b2 o2 hb2 hR2
      obtain ⟨en, hsn, v0, v1, v2, v3, v4, v5, e0, e1, e2, e3, e4, e5, hv⟩ := RF.at l b1 o1 i s t hR1 ht
      obtain ⟨en', hsn', v0', v1', v2', v3', v4', v5', e0', e1', e2', e3', e4', e5', hv'⟩ := RF.at l' b2 o2 i s' t' hR2 ht'
      obtain ⟨pk, pb, pn, ps, pa1, pl1, pc1, pa2, pl2, pc2, rfl, rfl, rfl, rfl, rfl, rfl⟩ := RV.open6 hv
      obtain ⟨qk, qb, qn, qs, qa1, ql1, qc1, qa2, ql2, qc2, rfl, rfl, rfl, rfl, rfl, rfl⟩ := RV.open6 hv'
      have HS := Lib.hid (Nf l l' i s s' t t' ht ht')
      have hsz := FL.get?_size l i s t ht
      have hhr := Nat.le_trans hhi hx.size
      have lb1 : b1 < wr.heap.size := by omega
      have lb2 : b2 < wr.heap.size := by omega
      have ne2 : b2 ≠ wr.heap.size := by omega
      have HC := Lib.hid (fun (w' : World) (hb : Below wr.heap.size wr w') => HIH.out t (by omega) t' s s' w' [.int .u8 pk, .bool pb, .int .i64 pn, .string ps, .slice pa1 pl1 pc1, .slice pa2 pl2 pc2] [.int .u8 qk, .bool qb, .int .i64 qn, .string qs, .slice qa1 ql1 qc1, .slice qa2 ql2 qc2] hi (RV.below hv (hb.mono hhr)) (RV.below hv' (hb.mono hhr)) (Nat.le_trans hhr hb.size))
      have hstep := HD.out
      rw [HS.out] at hstep
      clear hR1 hR2 hv hv' ht ht' HD HS HR
      obtain ⟨z, hzz⟩ : ∃ z, (s.toList == s'.toList && C5 t t') = z := ⟨_, rfl⟩
      rw [hzz] at hstep
      have HX := Lib.hid hx
      have HC2 : Hid (∀ (w' : World), Below wr.heap.size wr w' → Calls _ _ _ w' fun x w2 => x = .returned (.bool z) ∧ Below w'.heap.size w' w2) := Lib.hid (fun w' hb => by have h := HC.out w' hb; rw [hzz] at h; exact h)
      have HSTEP := Lib.hid hstep
      clear hstep hx HC hsz hhr hzz
      cases z with
      | true =>
        go_wp2_with (go_at_call 28; refine (HC2.out _ (Aj _ _)).mono ?_; rintro e w7 ⟨rfl, hb⟩)
        go_roundw
        case rel => exact ⟨i + 1, by go_num, by omega, Lib.hid (by simpa using HSTEP.out), BX HX.out HX.out.size (Aj _ _) hb⟩
        case measure => simp [intOf]; omega
      | false =>
        go_wp2_with (go_at_call 28; refine (HC2.out _ (Aj _ _)).mono ?_; rintro e w7 ⟨rfl, hb⟩)
        go_ret
        exact ⟨Ec (by simpa using HSTEP.out), BX HX.out HX.out.size (Aj _ _) hb⟩
    · have he := HD.out
      have hlen := HLEN.out
      rw [FL.drop_len l i (by omega), FL.drop_len l' i (by omega), Ci] at he
      have HE := Lib.hid he
      clear he hlen HD HR
      go_wp2
      go_ret
      exact ⟨Ec HE.out, hx⟩
 · rw [JG l l' hlen]
   have hq : ((l.len : Int) != (l'.len : Int)) = true := by simp; omega
   have hq2 : (l.len != l'.len) = true := by simpa using hlen
   clear hlen
   go_enter Tryz.func27, Tryz.ntmps27
   go_wp2
   go_ret
   exact ⟨rfl, Below.refl _ _⟩
set_option maxHeartbeats 1000000 in
set_option maxRecDepth 100000 in
theorem O1 (N : Nat) (IH : Ie N) (t : VT) (ht : t.size < N) (t' : VT) (s s' : ByteArray) (w : World) (cs cs' : List Value) (hi : Nat) (hv : RV w 0 hi t cs) (hv' : RV w 0 hi t' cs') (hhi : hi ≤ w.heap.size) :
   Calls Tryz.prog 28 #[.agg (Value.string s :: cs).toArray, .agg (Value.string s' :: cs').toArray] w fun x w' => x = .returned (.bool (s.toList == s'.toList && C5 t t')) ∧ Below w.heap.size w w' := by
 obtain ⟨pk, pb, pn, ps, pa1, pl1, pc1, pa2, pl2, pc2, rfl⟩ := RV.opens hv
 obtain ⟨qk, qb, qn, qs, qa1, ql1, qc1, qa2, ql2, qc2, rfl⟩ := RV.opens hv'
 obtain ⟨z, hz⟩ : ∃ z, C5 t t' = z := ⟨_, rfl⟩
 have HC := Lib.hid (fun (w' : World) (hb : Below w.heap.size w w') => IH t ht t' w' [.int .u8 pk, .bool pb, .int .i64 pn, .string ps, .slice pa1 pl1 pc1, .slice pa2 pl2 pc2] [.int .u8 qk, .bool qb, .int .i64 qn, .string qs, .slice qa1 ql1 qc1, .slice qa2 ql2 qc2] hi (RV.below hv (hb.mono hhi)) (RV.below hv' (hb.mono hhi)) (Nat.le_trans hhi hb.size))
 rw [hz] at HC ⊢
 clear hv hv' hz IH
 show Calls Tryz.prog 28 #[.agg #[.string s, .int .u8 pk, .bool pb, .int .i64 pn, .string ps, .slice pa1 pl1 pc1, .slice pa2 pl2 pc2], .agg #[.string s', .int .u8 qk, .bool qb, .int .i64 qn, .string qs, .slice qa1 ql1 qc1, .slice qa2 ql2 qc2]] w _
 cases hs : (s.toList == s'.toList) with
 | true =>
   go_enter Tryz.func28, Tryz.ntmps28
   go_wp2_with (go_at_call 11; refine (HC.out _ (Aj _ _)).mono ?_; rintro e w7 ⟨rfl, hb⟩)
   go_ret
   exact ⟨rfl, Aa (Aj _ _) (by simp; omega) hb⟩
 | false =>
   go_enter Tryz.func28, Tryz.ntmps28
   go_wp2
   go_ret
   exact ⟨rfl, Aj _ _⟩
set_option maxHeartbeats 1000000 in
set_option maxRecDepth 100000 in
theorem O2 (N : Nat) (IH : Ie N) (w : World) (k : Int) (b : Bool) (n : Int) (s : ByteArray) (l : VL) (f : FL) (a1 : Option Addr) (x1 : Nat) (a2 : Option Addr) (x2 : Nat) (k' : Int) (b' : Bool) (n' : Int) (s' : ByteArray) (l' : VL) (f' : FL) (a1' : Option Addr) (x1' : Nat) (a2' : Option Addr) (x2' : Nat) (hi : Nat)
   (hN : 1 + l.size + f.size ≤ N) (hhi : hi ≤ w.heap.size) (hll : l.len ≤ LIM) (hfl : f.len ≤ LIM) (hll' : l'.len ≤ LIM) (hfl' : f'.len ≤ LIM)
   (hl : l.len = 0 ∨ ∃ b o, a1 = some ⟨b, o, none⟩ ∧ 0 ≤ b ∧ b < hi ∧ RL w 0 hi l b o) (hf : f.len = 0 ∨ ∃ b o, a2 = some ⟨b, o, none⟩ ∧ 0 ≤ b ∧ b < hi ∧ RF w 0 hi f b o)
   (hl' : l'.len = 0 ∨ ∃ b o, a1' = some ⟨b, o, none⟩ ∧ 0 ≤ b ∧ b < hi ∧ RL w 0 hi l' b o) (hf' : f'.len = 0 ∨ ∃ b o, a2' = some ⟨b, o, none⟩ ∧ 0 ≤ b ∧ b < hi ∧ RF w 0 hi f' b o) :
   Calls Tryz.prog 11 #[.agg #[.int .u8 k, .bool b, .int .i64 n, .string s, .slice a1 l.len x1, .slice a2 f.len x2], .agg #[.int .u8 k', .bool b', .int .i64 n', .string s', .slice a1' l'.len x1', .slice a2' f'.len x2']] w fun x w' => x = .returned (.bool (C5 (.mk k b n s l f) (.mk k' b' n' s' l' f'))) ∧ Below w.heap.size w w' := by
 have HL : Hid (∀ w' : World, Below w.heap.size w w' → Calls Tryz.prog 26 #[.slice a1 l.len x1, .slice a1' l'.len x1', .func (.func 11) #[] #[]] w' fun x w2 => x = .returned (.bool (Cj l l')) ∧ Below w'.heap.size w' w2) := Lib.hid (fun w' hb => L4 N IH w' hi l l' a1 x1 a1' x1' (by omega) (Nat.le_trans hhi hb.size) hll hll'
   (hl.imp id fun ⟨b, o, e, h0, h1, h2⟩ => ⟨b, o, e, h0, h1, RL.keep (Same.of_below (hb.mono hhi)) (Nat.le_refl _) (Nat.le_refl _) l b o h1 h2⟩) (hl'.imp id fun ⟨b, o, e, h0, h1, h2⟩ => ⟨b, o, e, h0, h1, RL.keep (Same.of_below (hb.mono hhi)) (Nat.le_refl _) (Nat.le_refl _) l' b o h1 h2⟩))
 have HFD : Hid (∀ w' : World, Below w.heap.size w w' → Calls Tryz.prog 27 #[.slice a2 f.len x2, .slice a2' f'.len x2', .func (.func 28) #[] #[]] w' fun x w2 => x = .returned (.bool (Ci f f')) ∧ Below w'.heap.size w' w2) := Lib.hid (fun w' hb => L3 N (fun t ht t' s s' w cs cs' hi => O1 N IH t ht t' s s' w cs cs' hi) w' hi f f' a2 x2 a2' x2' (by omega) (Nat.le_trans hhi hb.size) hfl hfl'
   (hf.imp id fun ⟨b, o, e, h0, h1, h2⟩ => ⟨b, o, e, h0, h1, RF.keep (Same.of_below (hb.mono hhi)) (Nat.le_refl _) (Nat.le_refl _) f b o h1 h2⟩) (hf'.imp id fun ⟨b, o, e, h0, h1, h2⟩ => ⟨b, o, e, h0, h1, RF.keep (Same.of_below (hb.mono hhi)) (Nat.le_refl _) (Nat.le_refl _) f' b o h1 h2⟩))
 clear hl hf hl' hf' IH
 unfold LIM at hll hfl hll' hfl'
 rw [C5]
 have HFT := fun w => KA k b n s a1 l.len x1 a2 f.len x2 k' b' n' s' a1' l'.len x1' a2' f'.len x2' w
 generalize DR k b n s l.len f.len k' b' n' s' l'.len f'.len = z at *
 generalize Cj l l' = y at *
 generalize Ci f f' = x at *
 have HF := Lib.hid HFT
 clear HFT
 cases z with
 | false =>
   go_enter Tryz.func11, Tryz.ntmps11
   go_wp2_with (go_at_call 25; refine (HF.out _).mono ?_; rintro e w7 ⟨rfl, hb7⟩)
   go_ret
   exact ⟨rfl, Aa (Aj _ _) (by simp; omega) hb7⟩
 | true =>
   have tb := fun o o' => Aj (w := w) o o'
   cases y with
   | false =>
     go_enter Tryz.func11, Tryz.ntmps11
     go_wp2_with (first | (go_at_call 25; refine (HF.out _).mono ?_; rintro e w7 ⟨rfl, hb7⟩; obtain ⟨hc7, hf7⟩ := M2 hb7) | (go_at_call 26; refine (HL.out _ (Aa (Aj _ _) (by simp; omega) hb7)).mono ?_; rintro e w8 ⟨rfl, hb8⟩))
     go_ret
     exact ⟨rfl, Aa (Aa (Aj _ _) (by simp; omega) hb7) (Aa (Aj _ _) (by simp; omega) hb7).size hb8⟩
   | true =>
     go_enter Tryz.func11, Tryz.ntmps11
     go_wp2_with (first | (go_at_call 25; refine (HF.out _).mono ?_; rintro e w7 ⟨rfl, hb7⟩; obtain ⟨hc7, hf7⟩ := M2 hb7) | (go_at_call 26; refine (HL.out _ (Aa (Aj _ _) (by simp; omega) hb7)).mono ?_; rintro e w8 ⟨rfl, hb8⟩; have hb9 := (Aa (Aa (Aj _ _) (by simp; omega) hb7) (Aa (Aj _ _) (by simp; omega) hb7).size hb8); obtain ⟨hc8, hf8⟩ := M2 hb8; have hz7 := hb7.size; simp at hz7; have l7 : w.heap.size < w7.heap.size := (by omega); have l8 : w.heap.size + 1 < w7.heap.size := (by omega); clear hz7) | (go_at_call 27; refine (HFD.out _ hb9).mono ?_; rintro e w9 ⟨rfl, hb10⟩))
     go_ret
     exact ⟨rfl, Aa hb9 hb9.size hb10⟩
theorem Qg : ∀ (N : Nat), Ie N := by
 intro N
 induction N with
 | zero => intro t ht; omega
 | succ N ih =>
   intro t ht t' w cs cs' hi hv hv' hhi
   cases t with
   | mk k b n s l f =>
   cases t' with
   | mk k' b' n' s' l' f' =>
     unfold RV at hv hv'
     obtain ⟨a1, c1, a2, c2, rfl, hk, hn, hsz, hl, hf, hc1, hc2, hL, hF⟩ := hv
     obtain ⟨a1', c1', a2', c2', rfl, hk', hn', hsz', hl', hf', hc1', hc2', hL', hF'⟩ := hv'
     exact O2 N ih w k b n s l f a1 c1 a2 c2 k' b' n' s' l' f' a1' c1' a2' c2' hi (by unfold VT.size at ht; omega) hhi hl hf hl' hf' hL hF hL' hF'
theorem Hk (t t' : VT) (w : World) (cs cs' : List Value) (hi : Nat) (hv : RV w 0 hi t cs) (hv' : RV w 0 hi t' cs') (hhi : hi ≤ w.heap.size) :
  Calls Tryz.prog 11 #[.agg cs.toArray, .agg cs'.toArray] w fun x w' => x = .returned (.bool (C5 t t')) ∧ Below w.heap.size w w' :=
 Qg (t.size + 1) t (Nat.lt_succ_self _) t' w cs cs' hi hv hv' hhi
end Go.Proofs.YtbemgcjckchdjaaGreatDoor
