import Derived.Test.YtbemgcjckchdjaaGreatDoorKVd
import Derived.Test.YtbemgcjckchdjaaGreatDoorKVt
/- value.Compare: CompareFunc at values and fields, fields, Compare. -/
namespace Go.Proofs.YtbemgcjckchdjaaGreatDoor
open Go.RowKit
set_option linter.unusedSimpArgs false
set_option linter.unusedVariables false

abbrev CmpIH (N : Nat) : Prop := ∀ t : VT, t.size < N → ∀ (t' : VT) (w : World) (cs cs' : List Value) (hi : Nat), RV w 0 hi t cs → RV w 0 hi t' cs' → hi ≤ w.heap.size →
  Calls Tryz.prog 227 #[.agg cs.toArray, .agg cs'.toArray] w fun x w' => x = .returned (.int .i64 (cmpV t t')) ∧ Below w.heap.size w w'
abbrev CmpFIH (N : Nat) : Prop := ∀ t : VT, t.size < N → ∀ (t' : VT) (s s' : ByteArray) (w : World) (cs cs' : List Value) (hi : Nat), RV w 0 hi t cs → RV w 0 hi t' cs' → hi ≤ w.heap.size →
  Calls Tryz.prog 235 #[.agg (Value.string s :: cs).toArray, .agg (Value.string s' :: cs').toArray] w fun x w' => x = .returned (.int .i64 (firstZ [cmpS s s', cmpV t t'])) ∧ Below w.heap.size w w'
theorem two_allocs {w : World} (o o' : Obj) : Below w.heap.size w ((w.alloc o).alloc o') := ((Below.refl _ _).alloc (Nat.le_refl _) _).alloc (by simp) _
theorem below_calls {B : Nat} {a w w1 w2 : World} (h : Below B a w) (hp : B ≤ w.heap.size) (h1 : Below w.heap.size w w1) (hb : Below w1.heap.size w1 w2) : Below B a w2 :=
  below_call0 (below_call0 h hp h1) (Nat.le_trans hp h1.size) hb

set_option maxHeartbeats 1000000 in
set_option maxRecDepth 100000 in
theorem compareFunc_V (N : Nat) (IH : CmpIH N) (w : World) (hi : Nat) (l l' : VL) (a1 : Option Addr) (c1 : Nat) (a2 : Option Addr) (c2 : Nat) (hN : l.size < N) (hhi : hi ≤ w.heap.size) (hl : l.len ≤ LIM) (hl' : l'.len ≤ LIM)
    (hr : l.len = 0 ∨ ∃ b o, a1 = some ⟨b, o, none⟩ ∧ 0 ≤ b ∧ b < hi ∧ RL w 0 hi l b o) (hr' : l'.len = 0 ∨ ∃ b o, a2 = some ⟨b, o, none⟩ ∧ 0 ≤ b ∧ b < hi ∧ RL w 0 hi l' b o) :
    Calls Tryz.prog 238 #[.slice a1 l.len c1, .slice a2 l'.len c2, .func (.func 227) #[] #[]] w fun x w' => x = .returned (.int .i64 (cmpL l l')) ∧ Below w.heap.size w w' := by
  unfold LIM at hl hl'
  have HIH := Lib.hid IH
  clear IH
  obtain ⟨r, hr0⟩ : ∃ r, cmpL l l' = r := ⟨_, rfl⟩
  rw [hr0]
  have HR := Lib.hid hr0
  clear hr0
  go_enter Tryz.func238, Tryz.ntmps238
  go_wp2
  go_loopw [13] (fun s13 wr => ∃ i : Nat, s13 = .int .i64 i ∧ i ≤ l.len ∧ i ≤ l'.len ∧ Hid (cmpL (l.drop i) (l'.drop i) = r) ∧ Below w.heap.size w wr) (fun s13 _ => l.len - (intOf s13).toNat)
  case atStart => exact ⟨0, rfl, Nat.zero_le _, Nat.zero_le _, Lib.hid (by rw [VL.drop_zero, VL.drop_zero]; exact HR.out), Below.refl _ _⟩
  case round =>
    obtain ⟨i, rfl, hi1, hi2, HD, hx⟩ := hrel
    by_cases h1 : i < l.len
    · by_cases h2 : i < l'.len
      · rcases hr with h0 | ⟨b1, o1, rfl, _, hb1, hR1⟩
        · omega
        rcases hr' with h0 | ⟨b2, o2, rfl, _, hb2, hR2⟩
        · omega
        obtain ⟨t, ht⟩ := VL.get?_lt l i h1
        obtain ⟨t', ht'⟩ := VL.get?_lt l' i h2
        replace hR1 := RL.keep (Same.of_below (hx.mono hhi)) (Nat.le_refl _) (Nat.le_refl _) l b1 o1 hb1 hR1
        replace hR2 := RL.keep (Same.of_below (hx.mono hhi)) (Nat.le_refl _) (Nat.le_refl _) l' b2 o2 hb2 hR2
        obtain ⟨v0, v1, v2, v3, v4, v5, e0, e1, e2, e3, e4, e5, hv⟩ := RL.at l b1 o1 i t hR1 ht
        obtain ⟨v0', v1', v2', v3', v4', v5', e0', e1', e2', e3', e4', e5', hv'⟩ := RL.at l' b2 o2 i t' hR2 ht'
        obtain ⟨pk, pb, pn, ps, pa1, pl1, pc1, pa2, pl2, pc2, rfl, rfl, rfl, rfl, rfl, rfl⟩ := RV.open6 hv
        obtain ⟨qk, qb, qn, qs, qa1, ql1, qc1, qa2, ql2, qc2, rfl, rfl, rfl, rfl, rfl, rfl⟩ := RV.open6 hv'
        have HS := Lib.hid (cmpL_step l l' i t t' ht ht')
        have hsz := VL.get?_size l i t ht
        have hhr := Nat.le_trans hhi hx.size
        have lb1 : b1 < wr.heap.size := by omega
        have lb2 : b2 < wr.heap.size := by omega
        have ne2 : b2 ≠ wr.heap.size := by omega
        have HC := Lib.hid (fun (w' : World) (hb : Below wr.heap.size wr w') => HIH.out t (by omega) t' w' [.int .u8 pk, .bool pb, .int .i64 pn, .string ps, .slice pa1 pl1 pc1, .slice pa2 pl2 pc2] [.int .u8 qk, .bool qb, .int .i64 qn, .string qs, .slice qa1 ql1 qc1, .slice qa2 ql2 qc2] hi (RV.below hv (hb.mono hhr)) (RV.below hv' (hb.mono hhr)) (Nat.le_trans hhr hb.size))
        have hstep := HD.out
        rw [HS.out] at hstep
        clear hR1 hR2 hv hv' ht ht' HD HS HR
        by_cases hz : cmpV t t' = 0
        · rw [if_neg (by simpa using hz)] at hstep
          have HSTEP := Lib.hid hstep
          have HX := Lib.hid hx
          have HC2 : Hid (∀ (w' : World), Below wr.heap.size wr w' → Calls _ _ _ w' fun x w2 => x = .returned (.int .i64 0) ∧ Below w'.heap.size w' w2) := Lib.hid (fun w' hb => by have h := HC.out w' hb; rw [hz] at h; exact h)
          clear hstep hz hx HC hsz hhr
          go_wp2_with (go_at_call 227; refine (HC2.out _ (two_allocs _ _)).mono ?_; rintro e w7 ⟨rfl, hb⟩)
          go_roundw
          case rel => exact ⟨i + 1, by go_num, by omega, by omega, HSTEP, below_calls HX.out HX.out.size (two_allocs _ _) hb⟩
          case measure => simp [intOf]; omega
        · rw [if_pos hz] at hstep
          obtain ⟨z, hzz⟩ : ∃ z, cmpV t t' = z := ⟨_, rfl⟩
          rw [hzz] at hz hstep
          have HX := Lib.hid hx
          have HSTEP := Lib.hid hstep
          have hz2 : (z != 0) = true := by simpa using hz
          have hz3 : (z == 0) = false := by simpa using hz
          have HC2 : Hid (∀ (w' : World), Below wr.heap.size wr w' → Calls _ _ _ w' fun x w2 => x = .returned (.int .i64 z) ∧ Below w'.heap.size w' w2) := Lib.hid (fun w' hb => by have h := HC.out w' hb; rw [hzz] at h; exact h)
          clear hstep hz hx HC hsz hhr hzz
          go_wp2_with (go_at_call 227; refine (HC2.out _ (two_allocs _ _)).mono ?_; rintro e w7 ⟨rfl, hb⟩)
          go_ret
          exact ⟨ret_eq HSTEP.out, below_calls HX.out HX.out.size (two_allocs _ _) hb⟩
      · have he := cmpL_ends l l' i (HD.out.trans HR.out.symm) (Or.inr (by omega)) hi1 hi2
        rw [HR.out] at he
        rcases hr with h0 | ⟨b1, o1, rfl, _, hb1, hR1⟩
        · omega
        obtain ⟨t, ht⟩ := VL.get?_lt l i h1
        replace hR1 := RL.keep (Same.of_below (hx.mono hhi)) (Nat.le_refl _) (Nat.le_refl _) l b1 o1 hb1 hR1
        obtain ⟨v0, v1, v2, v3, v4, v5, e0, e1, e2, e3, e4, e5, hv⟩ := RL.at l b1 o1 i t hR1 ht
        obtain ⟨pk, pb, pn, ps, pa1, pl1, pc1, pa2, pl2, pc2, rfl, rfl, rfl, rfl, rfl, rfl⟩ := RV.open6 hv
        have HE : Hid (r = 1) := Lib.hid (by rw [he]; unfold cmpI; rw [if_neg (by omega), if_pos (by omega)])
        have HX := Lib.hid hx
        clear he hx hR1 hv ht HD HR
        go_wp2
        go_ret
        exact ⟨ret_eq HE.out.symm, below_call0 HX.out HX.out.size ((Below.refl _ _).alloc (Nat.le_refl _) _)⟩
    · have he := cmpL_ends l l' i (HD.out.trans HR.out.symm) (Or.inl (by omega)) hi1 hi2
      rw [HR.out] at he
      by_cases h3 : l.len < l'.len
      · have HE : Hid (r = -1) := Lib.hid (by rw [he]; unfold cmpI; rw [if_pos (by omega)])
        clear he HD HR
        have h4 : decide (l.len < l'.len) = true := by simpa using h3
        go_wp2
        go_ret
        exact ⟨ret_eq HE.out.symm, hx⟩
      · have HE : Hid (r = 0) := Lib.hid (by rw [he]; unfold cmpI; rw [if_neg (by omega), if_neg (by omega)])
        clear he HD HR
        have h4 : decide (l.len < l'.len) = false := by simpa using h3
        go_wp2
        go_ret
        exact ⟨ret_eq HE.out.symm, hx⟩

set_option maxHeartbeats 1000000 in
set_option maxRecDepth 100000 in
theorem compareFunc_F (N : Nat) (IH : CmpFIH N) (w : World) (hi : Nat) (l l' : FL) (a1 : Option Addr) (c1 : Nat) (a2 : Option Addr) (c2 : Nat) (hN : l.size < N) (hhi : hi ≤ w.heap.size) (hl : l.len ≤ LIM) (hl' : l'.len ≤ LIM)
    (hr : l.len = 0 ∨ ∃ b o, a1 = some ⟨b, o, none⟩ ∧ 0 ≤ b ∧ b < hi ∧ RF w 0 hi l b o) (hr' : l'.len = 0 ∨ ∃ b o, a2 = some ⟨b, o, none⟩ ∧ 0 ≤ b ∧ b < hi ∧ RF w 0 hi l' b o) :
    Calls Tryz.prog 239 #[.slice a1 l.len c1, .slice a2 l'.len c2, .func (.func 235) #[] #[]] w fun x w' => x = .returned (.int .i64 (cmpF l l')) ∧ Below w.heap.size w w' := by
  unfold LIM at hl hl'
  have HIH := Lib.hid IH
  clear IH
  obtain ⟨r, hr0⟩ : ∃ r, cmpF l l' = r := ⟨_, rfl⟩
  rw [hr0]
  have HR := Lib.hid hr0
  clear hr0
  go_enter Tryz.func239, Tryz.ntmps239
  go_wp2
  go_loopw [13] (fun s13 wr => ∃ i : Nat, s13 = .int .i64 i ∧ i ≤ l.len ∧ i ≤ l'.len ∧ Hid (cmpF (l.drop i) (l'.drop i) = r) ∧ Below w.heap.size w wr) (fun s13 _ => l.len - (intOf s13).toNat)
  case atStart => exact ⟨0, rfl, Nat.zero_le _, Nat.zero_le _, Lib.hid (by rw [FL.drop_zero, FL.drop_zero]; exact HR.out), Below.refl _ _⟩
  case round =>
    obtain ⟨i, rfl, hi1, hi2, HD, hx⟩ := hrel
    by_cases h1 : i < l.len
    · by_cases h2 : i < l'.len
      · rcases hr with h0 | ⟨b1, o1, rfl, _, hb1, hR1⟩
        · omega
        rcases hr' with h0 | ⟨b2, o2, rfl, _, hb2, hR2⟩
        · omega
        obtain ⟨⟨s, t⟩, ht⟩ := FL.get?_lt l i h1
        obtain ⟨⟨s', t'⟩, ht'⟩ := FL.get?_lt l' i h2
        replace hR1 := RF.keep (Same.of_below (hx.mono hhi)) (Nat.le_refl _) (Nat.le_refl _) l b1 o1 hb1 hR1
        replace hR2 := RF.keep (Same.of_below (hx.mono hhi)) (Nat.le_refl _) (Nat.le_refl _) l' b2 o2 hb2 hR2
        obtain ⟨en, hsn, v0, v1, v2, v3, v4, v5, e0, e1, e2, e3, e4, e5, hv⟩ := RF.at l b1 o1 i s t hR1 ht
        obtain ⟨en', hsn', v0', v1', v2', v3', v4', v5', e0', e1', e2', e3', e4', e5', hv'⟩ := RF.at l' b2 o2 i s' t' hR2 ht'
        obtain ⟨pk, pb, pn, ps, pa1, pl1, pc1, pa2, pl2, pc2, rfl, rfl, rfl, rfl, rfl, rfl⟩ := RV.open6 hv
        obtain ⟨qk, qb, qn, qs, qa1, ql1, qc1, qa2, ql2, qc2, rfl, rfl, rfl, rfl, rfl, rfl⟩ := RV.open6 hv'
        have HS := Lib.hid (cmpF_step l l' i s s' t t' ht ht')
        have hsz := FL.get?_size l i s t ht
        have hhr := Nat.le_trans hhi hx.size
        have lb1 : b1 < wr.heap.size := by omega
        have lb2 : b2 < wr.heap.size := by omega
        have ne2 : b2 ≠ wr.heap.size := by omega
        have HC := Lib.hid (fun (w' : World) (hb : Below wr.heap.size wr w') => HIH.out t (by omega) t' s s' w' [.int .u8 pk, .bool pb, .int .i64 pn, .string ps, .slice pa1 pl1 pc1, .slice pa2 pl2 pc2] [.int .u8 qk, .bool qb, .int .i64 qn, .string qs, .slice qa1 ql1 qc1, .slice qa2 ql2 qc2] hi (RV.below hv (hb.mono hhr)) (RV.below hv' (hb.mono hhr)) (Nat.le_trans hhr hb.size))
        have hstep := HD.out
        rw [HS.out] at hstep
        clear hR1 hR2 hv hv' ht ht' HD HS HR
        by_cases hz : firstZ [cmpS s s', cmpV t t'] = 0
        · rw [if_neg (by simpa using hz)] at hstep
          have HSTEP := Lib.hid hstep
          have HX := Lib.hid hx
          have HC2 : Hid (∀ (w' : World), Below wr.heap.size wr w' → Calls _ _ _ w' fun x w2 => x = .returned (.int .i64 0) ∧ Below w'.heap.size w' w2) := Lib.hid (fun w' hb => by have h := HC.out w' hb; rw [hz] at h; exact h)
          clear hstep hz hx HC hsz hhr
          go_wp2_with (go_at_call 235; refine (HC2.out _ (two_allocs _ _)).mono ?_; rintro e w7 ⟨rfl, hb⟩)
          go_roundw
          case rel => exact ⟨i + 1, by go_num, by omega, by omega, HSTEP, below_calls HX.out HX.out.size (two_allocs _ _) hb⟩
          case measure => simp [intOf]; omega
        · rw [if_pos hz] at hstep
          obtain ⟨z, hzz⟩ : ∃ z, firstZ [cmpS s s', cmpV t t'] = z := ⟨_, rfl⟩
          rw [hzz] at hz hstep
          have HX := Lib.hid hx
          have HSTEP := Lib.hid hstep
          have hz2 : (z != 0) = true := by simpa using hz
          have hz3 : (z == 0) = false := by simpa using hz
          have HC2 : Hid (∀ (w' : World), Below wr.heap.size wr w' → Calls _ _ _ w' fun x w2 => x = .returned (.int .i64 z) ∧ Below w'.heap.size w' w2) := Lib.hid (fun w' hb => by have h := HC.out w' hb; rw [hzz] at h; exact h)
          clear hstep hz hx HC hsz hhr hzz
          go_wp2_with (go_at_call 235; refine (HC2.out _ (two_allocs _ _)).mono ?_; rintro e w7 ⟨rfl, hb⟩)
          go_ret
          exact ⟨ret_eq HSTEP.out, below_calls HX.out HX.out.size (two_allocs _ _) hb⟩
      · have he := cmpF_ends l l' i (HD.out.trans HR.out.symm) (Or.inr (by omega)) hi1 hi2
        rw [HR.out] at he
        rcases hr with h0 | ⟨b1, o1, rfl, _, hb1, hR1⟩
        · omega
        obtain ⟨⟨s, t⟩, ht⟩ := FL.get?_lt l i h1
        replace hR1 := RF.keep (Same.of_below (hx.mono hhi)) (Nat.le_refl _) (Nat.le_refl _) l b1 o1 hb1 hR1
        obtain ⟨en, hsn, v0, v1, v2, v3, v4, v5, e0, e1, e2, e3, e4, e5, hv⟩ := RF.at l b1 o1 i s t hR1 ht
        obtain ⟨pk, pb, pn, ps, pa1, pl1, pc1, pa2, pl2, pc2, rfl, rfl, rfl, rfl, rfl, rfl⟩ := RV.open6 hv
        have HE : Hid (r = 1) := Lib.hid (by rw [he]; unfold cmpI; rw [if_neg (by omega), if_pos (by omega)])
        have HX := Lib.hid hx
        clear he hx hR1 hv ht HD HR
        go_wp2
        go_ret
        exact ⟨ret_eq HE.out.symm, below_call0 HX.out HX.out.size ((Below.refl _ _).alloc (Nat.le_refl _) _)⟩
    · have he := cmpF_ends l l' i (HD.out.trans HR.out.symm) (Or.inl (by omega)) hi1 hi2
      rw [HR.out] at he
      by_cases h3 : l.len < l'.len
      · have HE : Hid (r = -1) := Lib.hid (by rw [he]; unfold cmpI; rw [if_pos (by omega)])
        clear he HD HR
        have h4 : decide (l.len < l'.len) = true := by simpa using h3
        go_wp2
        go_ret
        exact ⟨ret_eq HE.out.symm, hx⟩
      · have HE : Hid (r = 0) := Lib.hid (by rw [he]; unfold cmpI; rw [if_neg (by omega), if_neg (by omega)])
        clear he HD HR
        have h4 : decide (l.len < l'.len) = false := by simpa using h3
        go_wp2
        go_ret
        exact ⟨ret_eq HE.out.symm, hx⟩
end Go.Proofs.YtbemgcjckchdjaaGreatDoor
/- value.Compare: fields, Compare. -/
namespace Go.Proofs.YtbemgcjckchdjaaGreatDoor
open Go.RowKit
set_option linter.unusedSimpArgs false
set_option linter.unusedVariables false

theorem RV.opens {w : World} {lo hi : Nat} {t : VT} {cs : List Value} (h : RV w lo hi t cs) :
    ∃ (k : Int) (b : Bool) (n : Int) (s : ByteArray) (a1 : Option Addr) (l1 c1 : Nat) (a2 : Option Addr) (l2 c2 : Nat), cs = [.int .u8 k, .bool b, .int .i64 n, .string s, .slice a1 l1 c1, .slice a2 l2 c2] := by
  cases t with
  | mk k b n s l f =>
    unfold RV at h
    obtain ⟨a1, c1, a2, c2, e, _⟩ := h
    exact ⟨k, b, n, s, a1, _, c1, a2, _, c2, e⟩
theorem blk_alloc {w : World} {b : Nat} {x o : Obj} (h : w.heap[b]? = some x) : (w.alloc o).heap[b]? = some x := by
  have hlt : b < w.heap.size := by
    rcases Nat.lt_or_ge b w.heap.size with h' | h'
    · exact h'
    · rw [Array.getElem?_eq_none h'] at h; cases h
  rw [Below.heap_alloc w o b hlt]; exact h

theorem each_V (f g : Value) (w : World) (z : Int) (h : Calls Tryz.prog 238 #[f, g, .func (.func 227) #[] #[]] w fun e w' => e = .returned (.int .i64 z) ∧ Below w.heap.size w w') :
    Calls Tryz.prog 233 #[f, g, .func (.func 227) #[] #[]] w fun e w' => e = .returned (.int .i64 z) ∧ Below w.heap.size w w' := by
  have H := Lib.hid h
  clear h
  go_enter Tryz.func233, Tryz.ntmps233
  go_wp2_with (go_at_call 238; refine (H.out).mono ?_; rintro e w7 ⟨rfl, hb⟩)
  go_ret
  exact ⟨rfl, hb⟩

theorem each_F (f g : Value) (w : World) (z : Int) (h : Calls Tryz.prog 239 #[f, g, .func (.func 235) #[] #[]] w fun e w' => e = .returned (.int .i64 z) ∧ Below w.heap.size w w') :
    Calls Tryz.prog 234 #[f, g, .func (.func 235) #[] #[]] w fun e w' => e = .returned (.int .i64 z) ∧ Below w.heap.size w w' := by
  have H := Lib.hid h
  clear h
  go_enter Tryz.func234, Tryz.ntmps234
  go_wp2_with (go_at_call 239; refine (H.out).mono ?_; rintro e w7 ⟨rfl, hb⟩)
  go_ret
  exact ⟨rfl, hb⟩

set_option maxHeartbeats 400000 in
theorem or_any (b : Nat) (zs : List Int) (cap : Nat) (w : World) (hn : zs.length ≤ 1000) (hc : ∀ i, i < zs.length → w.cell? ⟨b, i, none⟩ = some (.int .i64 (zs.getD i 0))) :
    Calls Tryz.prog 240 #[.slice (some ⟨b, 0, none⟩) zs.length cap] w fun x w' => x = .returned (.int .i64 (firstZ zs)) ∧ w = w' := by
  have HC := Lib.hid hc
  clear hc
  obtain ⟨r, hr⟩ : ∃ r, firstZ zs = r := ⟨_, rfl⟩
  rw [hr]
  have HR := Lib.hid hr
  clear hr
  go_enter Tryz.func240, Tryz.ntmps240
  go_wp2
  go_loop [8] (fun i => ∃ k : Nat, k ≤ zs.length ∧ i = .int .i64 k ∧ Hid (firstZ (zs.drop k) = r)) (fun i => zs.length - (intOf i).toNat)
  case atStart => exact ⟨0, by omega, rfl, HR⟩
  case round =>
    obtain ⟨k, hk, rfl, HF⟩ := hrel
    by_cases hlt : k < zs.length
    · have hcell := HC.out k hlt
      have hd := firstZ_drop zs k hlt
      obtain ⟨z, hzd⟩ : ∃ z, zs.getD k 0 = z := ⟨_, rfl⟩
      rw [hzd] at hcell hd
      clear hzd
      have HD := Lib.hid hd
      clear hd
      by_cases hz : z = 0
      · subst hz
        go_wp2
        refine ⟨⟨k + 1, by omega, by go_num, ?_⟩, by simp [intOf]; omega⟩
        have h1 := HF.out
        rw [HD.out, if_pos rfl] at h1
        exact h1
      · have hz' : (z != 0) = true := by simp only [bne_iff_ne]; exact hz
        have hz2 : (z == 0) = false := by simpa using hz
        have HZ := Lib.hid hz
        clear hz
        go_wp2
        go_ret
        have h1 := HF.out
        rw [HD.out, if_neg HZ.out] at h1
        exact ⟨by rw [← h1]; rfl, rfl⟩
    · go_wp2
      go_ret
      have h1 := HF.out
      rw [List.drop_of_length_le (by omega)] at h1
      exact ⟨by rw [← h1]; rfl, rfl⟩
theorem or2 (z0 z1 : Int) (T : TypeId) (w : World) :
    Calls Tryz.prog 240 #[.slice (some ⟨w.heap.size, 0, none⟩) 2 2] (w.alloc (.cells #[.int .i64 z0, .int .i64 z1] T)) fun x w' => x = .returned (.int .i64 (firstZ [z0, z1])) ∧ w.alloc (.cells #[.int .i64 z0, .int .i64 z1] T) = w' := by
  have h := heap_last w (.cells #[.int .i64 z0, .int .i64 z1] T)
  refine or_any w.heap.size [z0, z1] 2 _ (by simp) fun i hi => ?_
  obtain rfl | rfl : i = 0 ∨ i = 1 := by simp at hi; omega
  all_goals (unfold World.cell?; rw [h]; rfl)

set_option maxHeartbeats 1000000 in
set_option maxRecDepth 100000 in
theorem fields_any (N : Nat) (IH : CmpIH N) (t : VT) (ht : t.size < N) (t' : VT) (s s' : ByteArray) (w : World) (cs cs' : List Value) (hi : Nat) (hv : RV w 0 hi t cs) (hv' : RV w 0 hi t' cs') (hhi : hi ≤ w.heap.size) :
    Calls Tryz.prog 235 #[.agg (Value.string s :: cs).toArray, .agg (Value.string s' :: cs').toArray] w fun x w' => x = .returned (.int .i64 (firstZ [cmpS s s', cmpV t t'])) ∧ Below w.heap.size w w' := by
  obtain ⟨pk, pb, pn, ps, pa1, pl1, pc1, pa2, pl2, pc2, rfl⟩ := RV.opens hv
  obtain ⟨qk, qb, qn, qs, qa1, ql1, qc1, qa2, ql2, qc2, rfl⟩ := RV.opens hv'
  obtain ⟨z, hz⟩ : ∃ z, cmpV t t' = z := ⟨_, rfl⟩
  obtain ⟨y, hy⟩ : ∃ y, cmpS s s' = y := ⟨_, rfl⟩
  have HC := Lib.hid (fun (w' : World) (hb : Below w.heap.size w w') => IH t ht t' w' [.int .u8 pk, .bool pb, .int .i64 pn, .string ps, .slice pa1 pl1 pc1, .slice pa2 pl2 pc2] [.int .u8 qk, .bool qb, .int .i64 qn, .string qs, .slice qa1 ql1 qc1, .slice qa2 ql2 qc2] hi (RV.below hv (hb.mono hhi)) (RV.below hv' (hb.mono hhi)) (Nat.le_trans hhi hb.size))
  have HS := Lib.hid (compareS s s')
  rw [hz] at HC ⊢
  rw [hy] at HS ⊢
  clear hv hv' hz hy IH
  show Calls Tryz.prog 235 #[.agg #[.string s, .int .u8 pk, .bool pb, .int .i64 pn, .string ps, .slice pa1 pl1 pc1, .slice pa2 pl2 pc2], .agg #[.string s', .int .u8 qk, .bool qb, .int .i64 qn, .string qs, .slice qa1 ql1 qc1, .slice qa2 ql2 qc2]] w _
  go_enter Tryz.func235, Tryz.ntmps235
  go_wp2_with fail
  have hD := two_allocs (w := w) (.cells #[.string s, .int .u8 pk, .bool pb, .int .i64 pn, .string ps, .slice pa1 pl1 pc1, .slice pa2 pl2 pc2] 53) (.cells #[.string s', .int .u8 qk, .bool qb, .int .i64 qn, .string qs, .slice qa1 ql1 qc1, .slice qa2 ql2 qc2] 53)
  have hF := heap_last w (.cells #[.string s, .int .u8 pk, .bool pb, .int .i64 pn, .string ps, .slice pa1 pl1 pc1, .slice pa2 pl2 pc2] 53)
  have hG := heap_last (w.alloc (.cells #[.string s, .int .u8 pk, .bool pb, .int .i64 pn, .string ps, .slice pa1 pl1 pc1, .slice pa2 pl2 pc2] 53)) (.cells #[.string s', .int .u8 qk, .bool qb, .int .i64 qn, .string qs, .slice qa1 ql1 qc1, .slice qa2 ql2 qc2] 53)
  have hF2 := (blk_alloc (o := .cells #[.string s', .int .u8 qk, .bool qb, .int .i64 qn, .string qs, .slice qa1 ql1 qc1, .slice qa2 ql2 qc2] 53) hF)
  obtain ⟨f0, f1, f2, f3, f4, f5, f6, _⟩ := cells7 hF2
  have esz : (w.alloc (.cells #[.string s, .int .u8 pk, .bool pb, .int .i64 pn, .string ps, .slice pa1 pl1 pc1, .slice pa2 pl2 pc2] 53)).heap.size = w.heap.size + 1 := by simp
  rw [esz] at hG
  obtain ⟨g0, g1, g2, g3, g4, g5, g6, _⟩ := cells7 hG
  generalize (w.alloc (.cells #[.string s, .int .u8 pk, .bool pb, .int .i64 pn, .string ps, .slice pa1 pl1 pc1, .slice pa2 pl2 pc2] 53)).alloc (.cells #[.string s', .int .u8 qk, .bool qb, .int .i64 qn, .string qs, .slice qa1 ql1 qc1, .slice qa2 ql2 qc2] 53) = W at *
  clear hF hF2 hG esz
  refine wp_region_quiet_tail_lit 10 3 #[true, true, true, true, true, true, true, true, true, true, false, false, false] (fun w' => Below w.heap.size w w' ∧ w'.cell? ⟨w.heap.size, 0, none⟩ = some (.string s) ∧ w'.cell? ⟨w.heap.size, 1, none⟩ = some (.int .u8 pk) ∧ w'.cell? ⟨w.heap.size, 2, none⟩ = some (.bool pb) ∧ w'.cell? ⟨w.heap.size, 3, none⟩ = some (.int .i64 pn) ∧ w'.cell? ⟨w.heap.size, 4, none⟩ = some (.string ps) ∧ w'.cell? ⟨w.heap.size, 5, none⟩ = some (.slice pa1 pl1 pc1) ∧ w'.cell? ⟨w.heap.size, 6, none⟩ = some (.slice pa2 pl2 pc2) ∧ w'.cell? ⟨w.heap.size + 1, 0, none⟩ = some (.string s') ∧ w'.cell? ⟨w.heap.size + 1, 1, none⟩ = some (.int .u8 qk) ∧ w'.cell? ⟨w.heap.size + 1, 2, none⟩ = some (.bool qb) ∧ w'.cell? ⟨w.heap.size + 1, 3, none⟩ = some (.int .i64 qn) ∧ w'.cell? ⟨w.heap.size + 1, 4, none⟩ = some (.string qs) ∧ w'.cell? ⟨w.heap.size + 1, 5, none⟩ = some (.slice qa1 ql1 qc1) ∧ w'.cell? ⟨w.heap.size + 1, 6, none⟩ = some (.slice qa2 ql2 qc2)) (by kernel_rfl) (by simp only [List.take_succ_cons, List.take_zero]; rfl) (by kernel_rfl) (by kernel_rfl) (by kernel_rfl) ?_ ?_
  · exact ⟨hD.drew, f0, f1, f2, f3, f4, f5, f6, g0, g1, g2, g3, g4, g5, g6⟩
  repeat
    first
    | go_big_quiet_skip
    | go_big_quiet_want
      apply Exists.intro
      refine ⟨fun wq hC => ?_, ?_⟩
      · obtain ⟨qb, qf0, qf1, qf2, qf3, qf4, qf5, qf6, qg0, qg1, qg2, qg3, qg4, qg5, qg6⟩ := hC
        unfold Oper.quietAt
        go_simp
        first
        | rfl
        | exact ⟨rfl, rfl⟩
        | (go_at_call 232; refine (HS.out _).mono ?_; rintro e w7 ⟨rfl, rfl⟩; with_reducible exact ⟨rfl, qb, qf0, qf1, qf2, qf3, qf4, qf5, qf6, qg0, qg1, qg2, qg3, qg4, qg5, qg6⟩)
        | (go_at_call 227; refine (HC.out _ qb).mono ?_; rintro e w8 ⟨rfl, hb⟩; with_reducible exact ⟨rfl, below_call0 qb qb.size hb, keepC hb qf0, keepC hb qf1, keepC hb qf2, keepC hb qf3, keepC hb qf4, keepC hb qf5, keepC hb qf6, keepC hb qg0, keepC hb qg1, keepC hb qg2, keepC hb qg3, keepC hb qg4, keepC hb qg5, keepC hb qg6⟩)
      (try simp only [Act.put, List.setIfInBounds_toArray, List.set_cons_zero, List.set_cons_succ])
      go_big_quiet_on
  refine wpQuiet_nil ?_
  rintro wy ⟨qb, qf0, qf1, qf2, qf3, qf4, qf5, qf6, qg0, qg1, qg2, qg3, qg4, qg5, qg6⟩
  refine wpAny_only 10 _ (by kernel_rfl) (by rfl) (by rfl) (fun K hK => ?_)
  go_simp
  refine hK _ _ ?_
  clear hK K
  refine wpAny_only 11 _ (by kernel_rfl) (by rfl) (by rfl) (fun K hK => ?_)
  go_simp
  refine (or2 _ _ _ _).mono ?_
  rintro e w9 ⟨rfl, rfl⟩
  refine hK _ _ ?_
  clear hK K
  refine wpAny_only 12 _ (by kernel_rfl) (by rfl) (by rfl) (fun K hK => ?_)
  go_simp
  refine hK _ _ ?_
  clear hK K
  refine wpAny_end (by kernel_rfl) ?_
  go_wp2_with fail
  go_ret
  exact ⟨rfl, qb.alloc qb.size _⟩

set_option maxHeartbeats 1000000 in
set_option maxRecDepth 100000 in
theorem compare_node (N : Nat) (IH : CmpIH N) (w : World) (k : Int) (b : Bool) (n : Int) (s : ByteArray) (l : VL) (f : FL) (a1 : Option Addr) (x1 : Nat) (a2 : Option Addr) (x2 : Nat) (k' : Int) (b' : Bool) (n' : Int) (s' : ByteArray) (l' : VL) (f' : FL) (a1' : Option Addr) (x1' : Nat) (a2' : Option Addr) (x2' : Nat) (hi : Nat)
    (hN : 1 + l.size + f.size ≤ N) (hhi : hi ≤ w.heap.size) (hll : l.len ≤ LIM) (hfl : f.len ≤ LIM) (hll' : l'.len ≤ LIM) (hfl' : f'.len ≤ LIM)
    (hl : l.len = 0 ∨ ∃ b o, a1 = some ⟨b, o, none⟩ ∧ 0 ≤ b ∧ b < hi ∧ RL w 0 hi l b o) (hf : f.len = 0 ∨ ∃ b o, a2 = some ⟨b, o, none⟩ ∧ 0 ≤ b ∧ b < hi ∧ RF w 0 hi f b o)
    (hl' : l'.len = 0 ∨ ∃ b o, a1' = some ⟨b, o, none⟩ ∧ 0 ≤ b ∧ b < hi ∧ RL w 0 hi l' b o) (hf' : f'.len = 0 ∨ ∃ b o, a2' = some ⟨b, o, none⟩ ∧ 0 ≤ b ∧ b < hi ∧ RF w 0 hi f' b o) :
    Calls Tryz.prog 227 #[.agg #[.int .u8 k, .bool b, .int .i64 n, .string s, .slice a1 l.len x1, .slice a2 f.len x2], .agg #[.int .u8 k', .bool b', .int .i64 n', .string s', .slice a1' l'.len x1', .slice a2' f'.len x2']] w fun x w' => x = .returned (.int .i64 (cmpV (.mk k b n s l f) (.mk k' b' n' s' l' f'))) ∧ Below w.heap.size w w' := by
  have HL : Hid (∀ w' : World, Below w.heap.size w w' → Calls Tryz.prog 233 #[.slice a1 l.len x1, .slice a1' l'.len x1', .func (.func 227) #[] #[]] w' fun x w2 => x = .returned (.int .i64 (cmpL l l')) ∧ Below w'.heap.size w' w2) := Lib.hid (fun w' hb => each_V _ _ w' _ (compareFunc_V N IH w' hi l l' a1 x1 a1' x1' (by omega) (Nat.le_trans hhi hb.size) hll hll'
    (hl.imp id fun ⟨b, o, e, h0, h1, h2⟩ => ⟨b, o, e, h0, h1, RL.keep (Same.of_below (hb.mono hhi)) (Nat.le_refl _) (Nat.le_refl _) l b o h1 h2⟩) (hl'.imp id fun ⟨b, o, e, h0, h1, h2⟩ => ⟨b, o, e, h0, h1, RL.keep (Same.of_below (hb.mono hhi)) (Nat.le_refl _) (Nat.le_refl _) l' b o h1 h2⟩)))
  have HFD : Hid (∀ w' : World, Below w.heap.size w w' → Calls Tryz.prog 234 #[.slice a2 f.len x2, .slice a2' f'.len x2', .func (.func 235) #[] #[]] w' fun x w2 => x = .returned (.int .i64 (cmpF f f')) ∧ Below w'.heap.size w' w2) := Lib.hid (fun w' hb => each_F _ _ w' _ (compareFunc_F N (fun t ht t' s s' w cs cs' hi => fields_any N IH t ht t' s s' w cs cs' hi) w' hi f f' a2 x2 a2' x2' (by omega) (Nat.le_trans hhi hb.size) hfl hfl'
    (hf.imp id fun ⟨b, o, e, h0, h1, h2⟩ => ⟨b, o, e, h0, h1, RF.keep (Same.of_below (hb.mono hhi)) (Nat.le_refl _) (Nat.le_refl _) f b o h1 h2⟩) (hf'.imp id fun ⟨b, o, e, h0, h1, h2⟩ => ⟨b, o, e, h0, h1, RF.keep (Same.of_below (hb.mono hhi)) (Nat.le_refl _) (Nat.le_refl _) f' b o h1 h2⟩)))
  clear hl hf hl' hf' IH
  unfold LIM at hll hfl hll' hfl'
  rw [cmpV]
  by_cases hk : k = k'
  · subst hk
    rw [if_neg (by simp)]
    by_cases h1 : k = 1
    · subst h1
      rw [if_pos rfl]
      unfold cmpB
      cases b <;> cases b'
      all_goals
        go_enter Tryz.func227, Tryz.ntmps227
        go_wp2
        go_ret
        exact ⟨rfl, two_allocs _ _⟩
    by_cases h2 : k = 2
    · subst h2
      rw [if_neg (by decide), if_pos rfl]
      have HI := Lib.hid (compareI n n')
      generalize cmpI n n' = r at *
      go_enter Tryz.func227, Tryz.ntmps227
      go_wp2_with (go_at_call 231; refine (HI.out _).mono ?_; rintro e w7 ⟨rfl, rfl⟩)
      go_ret
      exact ⟨rfl, two_allocs _ _⟩
    by_cases h34 : k = 3 ∨ k = 4
    · rw [if_neg h1, if_neg h2, if_pos h34]
      have HI := Lib.hid (compareS s s')
      generalize cmpS s s' = r at *
      rcases h34 with rfl | rfl
      all_goals
        go_enter Tryz.func227, Tryz.ntmps227
        go_wp2_with (go_at_call 232; refine (HI.out _).mono ?_; rintro e w7 ⟨rfl, rfl⟩)
        go_ret
        exact ⟨rfl, two_allocs _ _⟩
    by_cases h5 : k = 5
    · subst h5
      rw [if_neg (by decide), if_neg (by decide), if_neg (by decide), if_pos rfl]
      generalize cmpL l l' = r at *
      go_enter Tryz.func227, Tryz.ntmps227
      go_wp2_with (go_at_call 233; refine (HL.out _ (two_allocs _ _)).mono ?_; rintro e w7 ⟨rfl, hb⟩)
      go_ret
      exact ⟨rfl, below_call0 (two_allocs _ _) (by simp; omega) hb⟩
    by_cases h6 : k = 6
    · subst h6
      rw [if_neg (by decide), if_neg (by decide), if_neg (by decide), if_neg (by decide), if_pos rfl]
      generalize cmpF f f' = r at *
      go_enter Tryz.func227, Tryz.ntmps227
      go_wp2_with (go_at_call 234; refine (HFD.out _ (two_allocs _ _)).mono ?_; rintro e w7 ⟨rfl, hb⟩)
      go_ret
      exact ⟨rfl, below_call0 (two_allocs _ _) (by simp; omega) hb⟩
    rw [if_neg h1, if_neg h2, if_neg h34, if_neg h5, if_neg h6]
    have g1 : (k == 1) = false := by simpa using h1
    have g2 : (k == 2) = false := by simpa using h2
    have g3 : (k == 3) = false := by simp; omega
    have g4 : (k == 4) = false := by simp; omega
    have g5 : (k == 5) = false := by simpa using h5
    have g6 : (k == 6) = false := by simpa using h6
    clear h1 h2 h34 h5 h6
    go_enter Tryz.func227, Tryz.ntmps227
    go_wp2
    go_ret
    exact ⟨rfl, two_allocs _ _⟩
  · rw [if_pos hk]
    have HI := Lib.hid (compareK k k')
    generalize cmpI k k' = r at *
    have g1 : (k == k') = false := by simpa using hk
    have g2 : (k != k') = true := by simpa using hk
    clear hk
    go_enter Tryz.func227, Tryz.ntmps227
    go_wp2_with (go_at_call 230; refine (HI.out _).mono ?_; rintro e w7 ⟨rfl, rfl⟩)
    go_ret
    exact ⟨rfl, two_allocs _ _⟩
theorem compare_all : ∀ (N : Nat), CmpIH N := by
  intro N
  induction N with
  | zero => intro t ht; omega
  | succ N ih =>
    intro t ht t' w cs cs' hi hv hv' hhi
    cases t with
    | mk k b n s l f =>
    cases t' with
    | mk k' b' n' s' l' f' =>
      unfold RV at hv hv'
      obtain ⟨a1, c1, a2, c2, rfl, hk, hn, hsz, hl, hf, hc1, hc2, hL, hF⟩ := hv
      obtain ⟨a1', c1', a2', c2', rfl, hk', hn', hsz', hl', hf', hc1', hc2', hL', hF'⟩ := hv'
      exact compare_node N ih w k b n s l f a1 c1 a2 c2 k' b' n' s' l' f' a1' c1' a2' c2' hi (by unfold VT.size at ht; omega) hhi hl hf hl' hf' hL hF hL' hF'
theorem Compare_any (t t' : VT) (w : World) (cs cs' : List Value) (hi : Nat) (hv : RV w 0 hi t cs) (hv' : RV w 0 hi t' cs') (hhi : hi ≤ w.heap.size) :
    Calls Tryz.prog 227 #[.agg cs.toArray, .agg cs'.toArray] w fun x w' => x = .returned (.int .i64 (cmpV t t')) ∧ Below w.heap.size w w' :=
  compare_all (t.size + 1) t (Nat.lt_succ_self _) t' w cs cs' hi hv hv' hhi
end Go.Proofs.YtbemgcjckchdjaaGreatDoor
