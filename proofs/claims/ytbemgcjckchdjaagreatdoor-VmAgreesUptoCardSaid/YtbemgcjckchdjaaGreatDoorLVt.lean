import Derived.Test.YtbemgcjckchdjaaGreatDoorLVa
import Derived.Test.YtbemgcjckchdjaaGreatDoorRows
import Derived.Deep.QuietTactic
import Derived.BigQuiet
import Derived.Test.YtbemgcjckchdjaaGreatDoorLVd
/- What Compare and Same come to, Cp trees. No program in sight. -/
namespace Go.Proofs.YtbemgcjckchdjaaGreatDoor
open Go.RowKit
set_option linter.unusedSimpArgs false
set_option linter.unusedVariables false
def Bp (a b : Int) : Int := if a < b then -1 else if b < a then 1 else 0
def Dt (a b : ByteArray) : Int := if Op.bytesLess a.toList b.toList then -1 else if !(Op.bytesLess a.toList b.toList || a.toList == b.toList) then 1 else 0
def Sh (a b : Bool) : Int := if a == b then 0 else if b then -1 else 1
mutual
def BJ : VT → VT → Int
 | .mk k b n s l f, .mk k' b' n' s' l' f' => if k ≠ k' then Bp k k' else if k = 1 then Sh b b' else if k = 2 then Bp n n' else if k = 3 ∨ k = 4 then Dt s s' else if k = 5 then CE l l' else if k = 6 then CD f f' else 0
def CE : VL → VL → Int
 | .nil, .nil => 0
 | .nil, .cons _ _ => -1
 | .cons _ _, .nil => 1
 | .cons t r, .cons t' r' => if BJ t t' ≠ 0 then BJ t t' else CE r r'
def CD : FL → FL → Int
 | .nil, .nil => 0
 | .nil, .cons _ _ _ => -1
 | .cons _ _ _, .nil => 1
 | .cons s t r, .cons s' t' r' => if AR [Dt s s', BJ t t'] ≠ 0 then AR [Dt s s', BJ t t'] else CD r r'
end
mutual
def C5 : VT → VT → Bool
 | .mk k b n s l f, .mk k' b' n' s' l' f' => DR k b n s l.len f.len k' b' n' s' l'.len f'.len && (Cj l l' && Ci f f')
def Cj : VL → VL → Bool
 | .nil, .nil => true
 | .cons t r, .cons t' r' => C5 t t' && Cj r r'
 | _, _ => false
def Ci : FL → FL → Bool
 | .nil, .nil => true
 | .cons s t r, .cons s' t' r' => (s.toList == s'.toList && C5 t t') && Ci r r'
 | _, _ => false
end
theorem Jw : ∀ (l l' : VL) (i : Nat), CE (l.drop i) (l'.drop i) = CE l l' → (l.len ≤ i ∨ l'.len ≤ i) → i ≤ l.len → i ≤ l'.len → CE l l' = Bp l.len l'.len := by
 intro l l' i h ho h1 h2
 rw [← h]
 have e1 := VL.drop_len
 rcases ho with ho | ho
 · have : l.len = i := by omega
   rw [VL.drop_len l i ho]
   cases hx : l'.drop i with
   | nil =>
     have : l'.len = i := by
      rcases Nat.lt_or_ge i l'.len with hl | hl
      · obtain ⟨t, ht⟩ := VL.get?_lt l' i hl
        rw [VL.drop_step l' i t ht] at hx; cases hx
      · omega
     simp only [CE, Bp]; rw [if_neg (by omega), if_neg (by omega)]
   | cons t r =>
     have : i < l'.len := by
      rcases Nat.lt_or_ge i l'.len with hl | hl
      · exact hl
      · rw [VL.drop_len l' i hl] at hx; cases hx
     simp only [CE, Bp]; rw [if_pos (by omega)]
 · have : l'.len = i := by omega
   rw [VL.drop_len l' i ho]
   cases hx : l.drop i with
   | nil =>
     have : l.len = i := by
      rcases Nat.lt_or_ge i l.len with hl | hl
      · obtain ⟨t, ht⟩ := VL.get?_lt l i hl
        rw [VL.drop_step l i t ht] at hx; cases hx
      · omega
     simp only [CE, Bp]; rw [if_neg (by omega), if_neg (by omega)]
   | cons t r =>
     have : i < l.len := by
      rcases Nat.lt_or_ge i l.len with hl | hl
      · exact hl
      · rw [VL.drop_len l i hl] at hx; cases hx
     simp only [CE, Bp]; rw [if_neg (by omega), if_pos (by omega)]
theorem Jv : ∀ (l l' : FL) (i : Nat), CD (l.drop i) (l'.drop i) = CD l l' → (l.len ≤ i ∨ l'.len ≤ i) → i ≤ l.len → i ≤ l'.len → CD l l' = Bp l.len l'.len := by
 intro l l' i h ho h1 h2
 rw [← h]
 rcases ho with ho | ho
 · have : l.len = i := by omega
   rw [FL.drop_len l i ho]
   cases hx : l'.drop i with
   | nil =>
     have : l'.len = i := by
      rcases Nat.lt_or_ge i l'.len with hl | hl
      · obtain ⟨⟨s, t⟩, ht⟩ := FL.get?_lt l' i hl
        rw [FL.drop_step l' i s t ht] at hx; cases hx
      · omega
     simp only [CD, Bp]; rw [if_neg (by omega), if_neg (by omega)]
   | cons s t r =>
     have : i < l'.len := by
      rcases Nat.lt_or_ge i l'.len with hl | hl
      · exact hl
      · rw [FL.drop_len l' i hl] at hx; cases hx
     simp only [CD, Bp]; rw [if_pos (by omega)]
 · have : l'.len = i := by omega
   rw [FL.drop_len l' i ho]
   cases hx : l.drop i with
   | nil =>
     have : l.len = i := by
      rcases Nat.lt_or_ge i l.len with hl | hl
      · obtain ⟨⟨s, t⟩, ht⟩ := FL.get?_lt l i hl
        rw [FL.drop_step l i s t ht] at hx; cases hx
      · omega
     simp only [CD, Bp]; rw [if_neg (by omega), if_neg (by omega)]
   | cons s t r =>
     have : i < l.len := by
      rcases Nat.lt_or_ge i l.len with hl | hl
      · exact hl
      · rw [FL.drop_len l i hl] at hx; cases hx
     simp only [CD, Bp]; rw [if_neg (by omega), if_pos (by omega)]
theorem NE (l l' : VL) (i : Nat) (t t' : VT) (h : l.get? i = some t) (h' : l'.get? i = some t') : CE (l.drop i) (l'.drop i) = if BJ t t' ≠ 0 then BJ t t' else CE (l.drop (i + 1)) (l'.drop (i + 1)) := by
 rw [VL.drop_step l i t h, VL.drop_step l' i t' h', CE]
theorem ND (l l' : FL) (i : Nat) (s s' : ByteArray) (t t' : VT) (h : l.get? i = some (s, t)) (h' : l'.get? i = some (s', t')) : CD (l.drop i) (l'.drop i) = if AR [Dt s s', BJ t t'] ≠ 0 then AR [Dt s s', BJ t t'] else CD (l.drop (i + 1)) (l'.drop (i + 1)) := by
 rw [FL.drop_step l i s t h, FL.drop_step l' i s' t' h', CD]
theorem Ng (l l' : VL) (i : Nat) (t t' : VT) (h : l.get? i = some t) (h' : l'.get? i = some t') : Cj (l.drop i) (l'.drop i) = (C5 t t' && Cj (l.drop (i + 1)) (l'.drop (i + 1))) := by
 rw [VL.drop_step l i t h, VL.drop_step l' i t' h', Cj]
theorem Nf (l l' : FL) (i : Nat) (s s' : ByteArray) (t t' : VT) (h : l.get? i = some (s, t)) (h' : l'.get? i = some (s', t')) : Ci (l.drop i) (l'.drop i) = ((s.toList == s'.toList && C5 t t') && Ci (l.drop (i + 1)) (l'.drop (i + 1))) := by
 rw [FL.drop_step l i s t h, FL.drop_step l' i s' t' h', Ci]
theorem JH : ∀ (l l' : VL), l.len ≠ l'.len → Cj l l' = false
 | .nil, .nil, h => absurd rfl h
 | .nil, .cons _ _, _ => by simp [Cj]
 | .cons _ _, .nil, _ => by simp [Cj]
 | .cons t r, .cons t' r', h => by simp only [Cj]; rw [JH r r' (by simpa [VL.len] using h)]; simp
theorem JG : ∀ (l l' : FL), l.len ≠ l'.len → Ci l l' = false
 | .nil, .nil, h => absurd rfl h
 | .nil, .cons _ _ _, _ => by simp [Ci]
 | .cons _ _ _, .nil, _ => by simp [Ci]
 | .cons s t r, .cons s' t' r', h => by simp only [Ci]; rw [JG r r' (by simpa [FL.len] using h)]; simp
/- cmp.Compare and cmp.isNaN at Kind, int64, string. -/
theorem PE (a : Int) (w : World) : Calls Tryz.prog 236 #[.int .u8 a] w fun e w' => e = .returned (.bool false) ∧ w = w' := by
 go_enter Tryz.func236, Tryz.ntmps236
 go_wp2
 go_ret
 exact ⟨by simp, rfl⟩
set_option maxHeartbeats 400000 in
theorem Po (a b : Int) (w : World) : Calls Tryz.prog 230 #[.int .u8 a, .int .u8 b] w fun e w' => e = .returned (.int .i64 (Bp a b)) ∧ w = w' := by
 rcases Int.lt_trichotomy a b with h | h | h
 · have r : Bp a b = -1 := by unfold Bp; rw [if_pos h]
   rw [r]
   clear r
   go_enter Tryz.func230, Tryz.ntmps230
   go_wp2_with (go_at_call 236; refine (PE _ _).mono ?_; rintro e w1 ⟨rfl, rfl⟩)
   go_ret
   exact ⟨rfl, rfl⟩
 · have r : Bp a b = 0 := by unfold Bp; subst h; rw [if_neg (by omega), if_neg (by omega)]
   rw [r]
   clear r
   subst h
   go_enter Tryz.func230, Tryz.ntmps230
   go_wp2_with (go_at_call 236; refine (PE _ _).mono ?_; rintro e w1 ⟨rfl, rfl⟩)
   go_ret
   exact ⟨rfl, rfl⟩
 · have r : Bp a b = 1 := by unfold Bp; rw [if_neg (by omega), if_pos h]
   rw [r]
   clear r
   have h1 : ¬ a < b := by omega
   go_enter Tryz.func230, Tryz.ntmps230
   go_wp2_with (go_at_call 236; refine (PE _ _).mono ?_; rintro e w1 ⟨rfl, rfl⟩)
   go_ret
   exact ⟨rfl, rfl⟩
theorem PD (a : Int) (w : World) : Calls Tryz.prog 237 #[.int .i64 a] w fun e w' => e = .returned (.bool false) ∧ w = w' := by
 go_enter Tryz.func237, Tryz.ntmps237
 go_wp2
 go_ret
 exact ⟨by simp, rfl⟩
set_option maxHeartbeats 400000 in
theorem Pn (a b : Int) (w : World) : Calls Tryz.prog 231 #[.int .i64 a, .int .i64 b] w fun e w' => e = .returned (.int .i64 (Bp a b)) ∧ w = w' := by
 rcases Int.lt_trichotomy a b with h | h | h
 · have r : Bp a b = -1 := by unfold Bp; rw [if_pos h]
   rw [r]
   clear r
   go_enter Tryz.func231, Tryz.ntmps231
   go_wp2_with (go_at_call 237; refine (PD _ _).mono ?_; rintro e w1 ⟨rfl, rfl⟩)
   go_ret
   exact ⟨rfl, rfl⟩
 · have r : Bp a b = 0 := by unfold Bp; subst h; rw [if_neg (by omega), if_neg (by omega)]
   rw [r]
   clear r
   subst h
   go_enter Tryz.func231, Tryz.ntmps231
   go_wp2_with (go_at_call 237; refine (PD _ _).mono ?_; rintro e w1 ⟨rfl, rfl⟩)
   go_ret
   exact ⟨rfl, rfl⟩
 · have r : Bp a b = 1 := by unfold Bp; rw [if_neg (by omega), if_pos h]
   rw [r]
   clear r
   have h1 : ¬ a < b := by omega
   go_enter Tryz.func231, Tryz.ntmps231
   go_wp2_with (go_at_call 237; refine (PD _ _).mono ?_; rintro e w1 ⟨rfl, rfl⟩)
   go_ret
   exact ⟨rfl, rfl⟩
theorem MR (a : ByteArray) (w : World) : Calls Tryz.prog 184 #[.string a] w fun e w' => e = .returned (.bool false) ∧ w = w' := by
 go_enter Tryz.func184, Tryz.ntmps184
 go_wp2
 go_ret
 exact ⟨by simp, rfl⟩
set_option maxHeartbeats 400000 in
theorem K4 (a b : ByteArray) (w : World) : Calls Tryz.prog 232 #[.string a, .string b] w fun e w' => e = .returned (.int .i64 (Dt a b)) ∧ w = w' := by
 unfold Dt
 cases h : Op.bytesLess a.toList b.toList with
 | true =>
   go_enter Tryz.func232, Tryz.ntmps232
   go_wp2_with (go_at_call 184; refine (MR _ _).mono ?_; rintro e w1 ⟨rfl, rfl⟩)
   go_ret
   exact ⟨rfl, rfl⟩
 | false =>
 cases h2 : (a.toList == b.toList) with
 | true =>
   go_enter Tryz.func232, Tryz.ntmps232
   go_wp2_with (go_at_call 184; refine (MR _ _).mono ?_; rintro e w1 ⟨rfl, rfl⟩)
   go_ret
   exact ⟨rfl, rfl⟩
 | false =>
   go_enter Tryz.func232, Tryz.ntmps232
   go_wp2_with (go_at_call 184; refine (MR _ _).mono ?_; rintro e w1 ⟨rfl, rfl⟩)
   go_ret
   exact ⟨rfl, rfl⟩
/- value.Compare: CompareFunc at values and fields, fields, Compare. -/
abbrev Kb (N : Nat) : Prop := ∀ t : VT, t.size < N → ∀ (t' : VT) (w : World) (cs cs' : List Value) (hi : Nat), RV w 0 hi t cs → RV w 0 hi t' cs' → hi ≤ w.heap.size →
 Calls Tryz.prog 227 #[.agg cs.toArray, .agg cs'.toArray] w fun x w' => x = .returned (.int .i64 (BJ t t')) ∧ Below w.heap.size w w'
abbrev RU (N : Nat) : Prop := ∀ t : VT, t.size < N → ∀ (t' : VT) (s s' : ByteArray) (w : World) (cs cs' : List Value) (hi : Nat), RV w 0 hi t cs → RV w 0 hi t' cs' → hi ≤ w.heap.size →
 Calls Tryz.prog 235 #[.agg (Value.string s :: cs).toArray, .agg (Value.string s' :: cs').toArray] w fun x w' => x = .returned (.int .i64 (AR [Dt s s', BJ t t'])) ∧ Below w.heap.size w w'
theorem Aj {w : World} (o o' : Obj) : Below w.heap.size w ((w.alloc o).alloc o') := ((Below.refl _ _).alloc (Nat.le_refl _) _).alloc (by simp) _
theorem BX {B : Nat} {a w w1 w2 : World} (h : Below B a w) (hp : B ≤ w.heap.size) (h1 : Below w.heap.size w w1) (hb : Below w1.heap.size w1 w2) : Below B a w2 :=
 Aa (Aa h hp h1) (Nat.le_trans hp h1.size) hb
set_option maxHeartbeats 1000000 in
set_option maxRecDepth 100000 in
theorem JT (N : Nat) (IH : Kb N) (w : World) (hi : Nat) (l l' : VL) (a1 : Option Addr) (c1 : Nat) (a2 : Option Addr) (c2 : Nat) (hN : l.size < N) (hhi : hi ≤ w.heap.size) (hl : l.len ≤ LIM) (hl' : l'.len ≤ LIM)
  (hr : l.len = 0 ∨ ∃ b o, a1 = some ⟨b, o, none⟩ ∧ 0 ≤ b ∧ b < hi ∧ RL w 0 hi l b o) (hr' : l'.len = 0 ∨ ∃ b o, a2 = some ⟨b, o, none⟩ ∧ 0 ≤ b ∧ b < hi ∧ RL w 0 hi l' b o) :
  Calls Tryz.prog 238 #[.slice a1 l.len c1, .slice a2 l'.len c2, .func (.func 227) #[] #[]] w fun x w' => x = .returned (.int .i64 (CE l l')) ∧ Below w.heap.size w w' := by
 unfold LIM at hl hl'
 have HIH := Lib.hid IH
 clear IH
 obtain ⟨r, hr0⟩ : ∃ r, CE l l' = r := ⟨_, rfl⟩
 rw [hr0]
 have HR := Lib.hid hr0
 clear hr0
 go_enter Tryz.func238, Tryz.ntmps238
 go_wp2
 go_loopw [13] (fun s13 wr => ∃ i : Nat, s13 = .int .i64 i ∧ i ≤ l.len ∧ i ≤ l'.len ∧ Hid (CE (l.drop i) (l'.drop i) = r) ∧ Below w.heap.size w wr) (fun s13 _ => l.len - (intOf s13).toNat)
 case atStart => exact ⟨0, rfl, Nat.zero_le _, Nat.zero_le _, Lib.hid (by rw [VL.drop_zero, VL.drop_zero]; exact HR.out), Below.refl _ _⟩
 case round =>
  obtain ⟨i, rfl, hi1, hi2, HD, hx⟩ := hrel
  by_cases h1 : i < l.len
  · by_cases h2 : i < l'.len
    · rcases hr with h0 | ⟨b1, o1, rfl, _, hb1, hR1⟩
      · omega
      rcases hr' with h0 | ⟨b2, o2, rfl, _, hb2, hR2⟩
      · omega
      obtain ⟨t, ht⟩ := VL.get?_lt l i h1
      obtain ⟨t', ht'⟩ := VL.get?_lt l' i h2
      replace hR1 := RL.keep (Same.of_below (hx.mono hhi)) (Nat.le_refl _) (Nat.le_refl _) l b1 o1 hb1 hR1
      replace hR2 := RL.keep (Same.of_below (hx.mono hhi)) (Nat.le_refl _) (Nat.le_refl _) l' b2 o2 hb2 hR2
      obtain ⟨v0, v1, v2, v3, v4, v5, e0, e1, e2, e3, e4, e5, hv⟩ := RL.at l b1 o1 i t hR1 ht
      obtain ⟨v0', v1', v2', v3', v4', v5', e0', e1', e2', e3', e4', e5', hv'⟩ := RL.at l' b2 o2 i t' hR2 ht'
      obtain ⟨pk, pb, pn, ps, pa1, pl1, pc1, pa2, pl2, pc2, rfl, rfl, rfl, rfl, rfl, rfl⟩ := RV.open6 hv
      obtain ⟨qk, qb, qn, qs, qa1, ql1, qc1, qa2, ql2, qc2, rfl, rfl, rfl, rfl, rfl, rfl⟩ := RV.open6 hv'
      have HS := Lib.hid (NE l l' i t t' ht ht')
      have hsz := VL.get?_size l i t ht
      have hhr := Nat.le_trans hhi hx.size
      have lb1 : b1 < wr.heap.size := by omega
      have lb2 : b2 < wr.heap.size := by omega
      have ne2 : b2 ≠ wr.heap.size := by omega
      have HC := Lib.hid (fun (w' : World) (hb : Below wr.heap.size wr w') => HIH.out t (by omega) t' w' [.int .u8 pk, .bool pb, .int .i64 pn, .string ps, .slice pa1 pl1 pc1, .slice pa2 pl2 pc2] [.int .u8 qk, .bool qb, .int .i64 qn, .string qs, .slice qa1 ql1 qc1, .slice qa2 ql2 qc2] hi (RV.below hv (hb.mono hhr)) (RV.below hv' (hb.mono hhr)) (Nat.le_trans hhr hb.size))
      have hstep := HD.out
      rw [HS.out] at hstep
      clear hR1 hR2 hv hv' ht ht' HD HS HR
      by_cases hz : BJ t t' = 0
      · rw [if_neg (by simpa using hz)] at hstep
        have HSTEP := Lib.hid hstep
        have HX := Lib.hid hx
        have HC2 : Hid (∀ (w' : World), Below wr.heap.size wr w' → Calls _ _ _ w' fun x w2 => x = .returned (.int .i64 0) ∧ Below w'.heap.size w' w2) := Lib.hid (fun w' hb => by have h := HC.out w' hb; rw [hz] at h; exact h)
        clear hstep hz hx HC hsz hhr
        go_wp2_with (go_at_call 227; refine (HC2.out _ (Aj _ _)).mono ?_; rintro e w7 ⟨rfl, hb⟩)
        go_roundw
        case rel => exact ⟨i + 1, by go_num, by omega, by omega, HSTEP, BX HX.out HX.out.size (Aj _ _) hb⟩
        case measure => simp [intOf]; omega
      · rw [if_pos hz] at hstep
        obtain ⟨z, hzz⟩ : ∃ z, BJ t t' = z := ⟨_, rfl⟩
        rw [hzz] at hz hstep
        have HX := Lib.hid hx
        have HSTEP := Lib.hid hstep
        have hz2 : (z != 0) = true := by simpa using hz
        have hz3 : (z == 0) = false := by simpa using hz
        have HC2 : Hid (∀ (w' : World), Below wr.heap.size wr w' → Calls _ _ _ w' fun x w2 => x = .returned (.int .i64 z) ∧ Below w'.heap.size w' w2) := Lib.hid (fun w' hb => by have h := HC.out w' hb; rw [hzz] at h; exact h)
        clear hstep hz hx HC hsz hhr hzz
        go_wp2_with (go_at_call 227; refine (HC2.out _ (Aj _ _)).mono ?_; rintro e w7 ⟨rfl, hb⟩)
        go_ret
        exact ⟨Bc HSTEP.out, BX HX.out HX.out.size (Aj _ _) hb⟩
    · have he := Jw l l' i (HD.out.trans HR.out.symm) (Or.inr (by omega)) hi1 hi2
      rw [HR.out] at he
      rcases hr with h0 | ⟨b1, o1, rfl, _, hb1, hR1⟩
      · omega
      obtain ⟨t, ht⟩ := VL.get?_lt l i h1
      replace hR1 := RL.keep (Same.of_below (hx.mono hhi)) (Nat.le_refl _) (Nat.le_refl _) l b1 o1 hb1 hR1
      obtain ⟨v0, v1, v2, v3, v4, v5, e0, e1, e2, e3, e4, e5, hv⟩ := RL.at l b1 o1 i t hR1 ht
      obtain ⟨pk, pb, pn, ps, pa1, pl1, pc1, pa2, pl2, pc2, rfl, rfl, rfl, rfl, rfl, rfl⟩ := RV.open6 hv
      have HE : Hid (r = 1) := Lib.hid (by rw [he]; unfold Bp; rw [if_neg (by omega), if_pos (by omega)])
      have HX := Lib.hid hx
      clear he hx hR1 hv ht HD HR
      go_wp2
      go_ret
      exact ⟨Bc HE.out.symm, Aa HX.out HX.out.size ((Below.refl _ _).alloc (Nat.le_refl _) _)⟩
  · have he := Jw l l' i (HD.out.trans HR.out.symm) (Or.inl (by omega)) hi1 hi2
    rw [HR.out] at he
    by_cases h3 : l.len < l'.len
    · have HE : Hid (r = -1) := Lib.hid (by rw [he]; unfold Bp; rw [if_pos (by omega)])
      clear he HD HR
      have h4 : decide (l.len < l'.len) = true := by simpa using h3
      go_wp2
      go_ret
      exact ⟨Bc HE.out.symm, hx⟩
    · have HE : Hid (r = 0) := Lib.hid (by rw [he]; unfold Bp; rw [if_neg (by omega), if_neg (by omega)])
      clear he HD HR
      have h4 : decide (l.len < l'.len) = false := by simpa using h3
      go_wp2
      go_ret
      exact ⟨Bc HE.out.symm, hx⟩
set_option maxHeartbeats 1000000 in
set_option maxRecDepth 100000 in
theorem JS (N : Nat) (IH : RU N) (w : World) (hi : Nat) (l l' : FL) (a1 : Option Addr) (c1 : Nat) (a2 : Option Addr) (c2 : Nat) (hN : l.size < N) (hhi : hi ≤ w.heap.size) (hl : l.len ≤ LIM) (hl' : l'.len ≤ LIM)
  (hr : l.len = 0 ∨ ∃ b o, a1 = some ⟨b, o, none⟩ ∧ 0 ≤ b ∧ b < hi ∧ RF w 0 hi l b o) (hr' : l'.len = 0 ∨ ∃ b o, a2 = some ⟨b, o, none⟩ ∧ 0 ≤ b ∧ b < hi ∧ RF w 0 hi l' b o) :
  Calls Tryz.prog 239 #[.slice a1 l.len c1, .slice a2 l'.len c2, .func (.func 235) #[] #[]] w fun x w' => x = .returned (.int .i64 (CD l l')) ∧ Below w.heap.size w w' := by
 unfold LIM at hl hl'
 have HIH := Lib.hid IH
 clear IH
 obtain ⟨r, hr0⟩ : ∃ r, CD l l' = r := ⟨_, rfl⟩
 rw [hr0]
 have HR := Lib.hid hr0
 clear hr0
 go_enter Tryz.func239, Tryz.ntmps239
 go_wp2
 go_loopw [13] (fun s13 wr => ∃ i : Nat, s13 = .int .i64 i ∧ i ≤ l.len ∧ i ≤ l'.len ∧ Hid (CD (l.drop i) (l'.drop i) = r) ∧ Below w.heap.size w wr) (fun s13 _ => l.len - (intOf s13).toNat)
 case atStart => exact ⟨0, rfl, Nat.zero_le _, Nat.zero_le _, Lib.hid (by rw [FL.drop_zero, FL.drop_zero]; exact HR.out), Below.refl _ _⟩
 case round =>
  obtain ⟨i, rfl, hi1, hi2, HD, hx⟩ := hrel
  by_cases h1 : i < l.len
  · by_cases h2 : i < l'.len
    · rcases hr with h0 | ⟨b1, o1, rfl, _, hb1, hR1⟩
      · omega
      rcases hr' with h0 | ⟨b2, o2, rfl, _, hb2, hR2⟩
      · omega
      obtain ⟨⟨s, t⟩, ht⟩ := FL.get?_lt l i h1
      obtain ⟨⟨s', t'⟩, ht'⟩ := FL.get?_lt l' i h2
      replace hR1 := RF.keep (Same.of_below (hx.mono hhi)) (Nat.le_refl _) (Nat.le_refl _) l b1 o1 hb1 hR1
      replace hR2 := RF.keep (Same.of_below (hx.mono hhi)) (Nat.le_refl _) (Nat.le_refl _) l' b2 o2 hb2 hR2
      obtain ⟨en, hsn, v0, v1, v2, v3, v4, v5, e0, e1, e2, e3, e4, e5, hv⟩ := RF.at l b1 o1 i s t hR1 ht
      obtain ⟨en', hsn', v0', v1', v2', v3', v4', v5', e0', e1', e2', e3', e4', e5', hv'⟩ := RF.at l' b2 o2 i s' t' hR2 ht'
      obtain ⟨pk, pb, pn, ps, pa1, pl1, pc1, pa2, pl2, pc2, rfl, rfl, rfl, rfl, rfl, rfl⟩ := RV.open6 hv
      obtain ⟨qk, qb, qn, qs, qa1, ql1, qc1, qa2, ql2, qc2, rfl, rfl, rfl, rfl, rfl, rfl⟩ := RV.open6 hv'
      have HS := Lib.hid (ND l l' i s s' t t' ht ht')
      have hsz := FL.get?_size l i s t ht
      have hhr := Nat.le_trans hhi hx.size
      have lb1 : b1 < wr.heap.size := by omega
      have lb2 : b2 < wr.heap.size := by omega
      have ne2 : b2 ≠ wr.heap.size := by omega
      have HC := Lib.hid (fun (w' : World) (hb : Below wr.heap.size wr w') => HIH.out t (by omega) t' s s' w' [.int .u8 pk, .bool pb, .int .i64 pn, .string ps, .slice pa1 pl1 pc1, .slice pa2 pl2 pc2] [.int .u8 qk, .bool qb, .int .i64 qn, .string qs, .slice qa1 ql1 qc1, .slice qa2 ql2 qc2] hi (RV.below hv (hb.mono hhr)) (RV.below hv' (hb.mono hhr)) (Nat.le_trans hhr hb.size))
      have hstep := HD.out
      rw [HS.out] at hstep
      clear hR1 hR2 hv hv' ht ht' HD HS HR
      by_cases hz : AR [Dt s s', BJ t t'] = 0
      · rw [if_neg (by simpa using hz)] at hstep
        have HSTEP := Lib.hid hstep
        have HX := Lib.hid hx
        have HC2 : Hid (∀ (w' : World), Below wr.heap.size wr w' → Calls _ _ _ w' fun x w2 => x = .returned (.int .i64 0) ∧ Below w'.heap.size w' w2) := Lib.hid (fun w' hb => by have h := HC.out w' hb; rw [hz] at h; exact h)
        clear hstep hz hx HC hsz hhr
        go_wp2_with (go_at_call 235; refine (HC2.out _ (Aj _ _)).mono ?_; rintro e w7 ⟨rfl, hb⟩)
        go_roundw
        case rel => exact ⟨i + 1, by go_num, by omega, by omega, HSTEP, BX HX.out HX.out.size (Aj _ _) hb⟩
        case measure => simp [intOf]; omega
      · rw [if_pos hz] at hstep
        obtain ⟨z, hzz⟩ : ∃ z, AR [Dt s s', BJ t t'] = z := ⟨_, rfl⟩
        rw [hzz] at hz hstep
        have HX := Lib.hid hx
        have HSTEP := Lib.hid hstep
        have hz2 : (z != 0) = true := by simpa using hz
        have hz3 : (z == 0) = false := by simpa using hz
        have HC2 : Hid (∀ (w' : World), Below wr.heap.size wr w' → Calls _ _ _ w' fun x w2 => x = .returned (.int .i64 z) ∧ Below w'.heap.size w' w2) := Lib.hid (fun w' hb => by have h := HC.out w' hb; rw [hzz] at h; exact h)
        clear hstep hz hx HC hsz hhr hzz
        go_wp2_with (go_at_call 235; refine (HC2.out _ (Aj _ _)).mono ?_; rintro e w7 ⟨rfl, hb⟩)
        go_ret
        exact ⟨Bc HSTEP.out, BX HX.out HX.out.size (Aj _ _) hb⟩
    · have he := Jv l l' i (HD.out.trans HR.out.symm) (Or.inr (by omega)) hi1 hi2
      rw [HR.out] at he
      rcases hr with h0 | ⟨b1, o1, rfl, _, hb1, hR1⟩
      · omega
      obtain ⟨⟨s, t⟩, ht⟩ := FL.get?_lt l i h1
      replace hR1 := RF.keep (Same.of_below (hx.mono hhi)) (Nat.le_refl _) (Nat.le_refl _) l b1 o1 hb1 hR1
      obtain ⟨en, hsn, v0, v1, v2, v3, v4, v5, e0, e1, e2, e3, e4, e5, hv⟩ := RF.at l b1 o1 i s t hR1 ht
      obtain ⟨pk, pb, pn, ps, pa1, pl1, pc1, pa2, pl2, pc2, rfl, rfl, rfl, rfl, rfl, rfl⟩ := RV.open6 hv
      have HE : Hid (r = 1) := Lib.hid (by rw [he]; unfold Bp; rw [if_neg (by omega), if_pos (by omega)])
      have HX := Lib.hid hx
      clear he hx hR1 hv ht HD HR
      go_wp2
      go_ret
      exact ⟨Bc HE.out.symm, Aa HX.out HX.out.size ((Below.refl _ _).alloc (Nat.le_refl _) _)⟩
  · have he := Jv l l' i (HD.out.trans HR.out.symm) (Or.inl (by omega)) hi1 hi2
    rw [HR.out] at he
    by_cases h3 : l.len < l'.len
    · have HE : Hid (r = -1) := Lib.hid (by rw [he]; unfold Bp; rw [if_pos (by omega)])
      clear he HD HR
      have h4 : decide (l.len < l'.len) = true := by simpa using h3
      go_wp2
      go_ret
      exact ⟨Bc HE.out.symm, hx⟩
    · have HE : Hid (r = 0) := Lib.hid (by rw [he]; unfold Bp; rw [if_neg (by omega), if_neg (by omega)])
      clear he HD HR
      have h4 : decide (l.len < l'.len) = false := by simpa using h3
      go_wp2
      go_ret
      exact ⟨Bc HE.out.symm, hx⟩
/- value.Compare: fields, Compare. -/
theorem RV.opens {w : World} {lo hi : Nat} {t : VT} {cs : List Value} (h : RV w lo hi t cs) :
   ∃ (k : Int) (b : Bool) (n : Int) (s : ByteArray) (a1 : Option Addr) (l1 c1 : Nat) (a2 : Option Addr) (l2 c2 : Nat), cs = [.int .u8 k, .bool b, .int .i64 n, .string s, .slice a1 l1 c1, .slice a2 l2 c2] := by
 cases t with
 | mk k b n s l f =>
   unfold RV at h
   obtain ⟨a1, c1, a2, c2, e, _⟩ := h
   exact ⟨k, b, n, s, a1, _, c1, a2, _, c2, e⟩
theorem Af {w : World} {b : Nat} {x o : Obj} (h : w.heap[b]? = some x) : (w.alloc o).heap[b]? = some x := by
 have hlt : b < w.heap.size := by
  rcases Nat.lt_or_ge b w.heap.size with h' | h'
  · exact h'
  · rw [Array.getElem?_eq_none h'] at h; cases h
 rw [Below.heap_alloc w o b hlt]; exact h
theorem Sl (f g : Value) (w : World) (z : Int) (h : Calls Tryz.prog 238 #[f, g, .func (.func 227) #[] #[]] w fun e w' => e = .returned (.int .i64 z) ∧ Below w.heap.size w w') :
  Calls Tryz.prog 233 #[f, g, .func (.func 227) #[] #[]] w fun e w' => e = .returned (.int .i64 z) ∧ Below w.heap.size w w' := by
 have H := Lib.hid h
 clear h
 go_enter Tryz.func233, Tryz.ntmps233
 go_wp2_with (go_at_call 238; refine (H.out).mono ?_; rintro e w7 ⟨rfl, hb⟩)
 go_ret
 exact ⟨rfl, hb⟩
theorem Sk (f g : Value) (w : World) (z : Int) (h : Calls Tryz.prog 239 #[f, g, .func (.func 235) #[] #[]] w fun e w' => e = .returned (.int .i64 z) ∧ Below w.heap.size w w') :
  Calls Tryz.prog 234 #[f, g, .func (.func 235) #[] #[]] w fun e w' => e = .returned (.int .i64 z) ∧ Below w.heap.size w w' := by
 have H := Lib.hid h
 clear h
 go_enter Tryz.func234, Tryz.ntmps234
 go_wp2_with (go_at_call 239; refine (H.out).mono ?_; rintro e w7 ⟨rfl, hb⟩)
 go_ret
 exact ⟨rfl, hb⟩
set_option maxHeartbeats 400000 in
theorem S0 (b : Nat) (zs : List Int) (cap : Nat) (w : World) (hn : zs.length ≤ 1000) (hc : ∀ i, i < zs.length → w.cell? ⟨b, i, none⟩ = some (.int .i64 (zs.getD i 0))) :
  Calls Tryz.prog 240 #[.slice (some ⟨b, 0, none⟩) zs.length cap] w fun x w' => x = .returned (.int .i64 (AR zs)) ∧ w = w' := by
 have HC := Lib.hid hc
 clear hc
 obtain ⟨r, hr⟩ : ∃ r, AR zs = r := ⟨_, rfl⟩
 rw [hr]
 have HR := Lib.hid hr
 clear hr
 go_enter Tryz.func240, Tryz.ntmps240
 go_wp2
 go_loop [8] (fun i => ∃ k : Nat, k ≤ zs.length ∧ i = .int .i64 k ∧ Hid (AR (zs.drop k) = r)) (fun i => zs.length - (intOf i).toNat)
 case atStart => exact ⟨0, by omega, rfl, HR⟩
 case round =>
  obtain ⟨k, hk, rfl, HF⟩ := hrel
  by_cases hlt : k < zs.length
  · have hcell := HC.out k hlt
    have hd := GN zs k hlt
    obtain ⟨z, hzd⟩ : ∃ z, zs.getD k 0 = z := ⟨_, rfl⟩
    rw [hzd] at hcell hd
    clear hzd
    have HD := Lib.hid hd
    clear hd
    by_cases hz : z = 0
    · subst hz
      go_wp2
      refine ⟨⟨k + 1, by omega, by go_num, ?_⟩, by simp [intOf]; omega⟩
      have h1 := HF.out
      rw [HD.out, if_pos rfl] at h1
      exact h1
    · have hz' : (z != 0) = true := by simp only [bne_iff_ne]; exact hz
      have hz2 : (z == 0) = false := by simpa using hz
      have HZ := Lib.hid hz
      clear hz
      go_wp2
      go_ret
      have h1 := HF.out
      rw [HD.out, if_neg HZ.out] at h1
      exact ⟨by rw [← h1]; rfl, rfl⟩
  · go_wp2
    go_ret
    have h1 := HF.out
    rw [List.drop_of_length_le (by omega)] at h1
    exact ⟨by rw [← h1]; rfl, rfl⟩
theorem or2 (z0 z1 : Int) (T : TypeId) (w : World) :
  Calls Tryz.prog 240 #[.slice (some ⟨w.heap.size, 0, none⟩) 2 2] (w.alloc (.cells #[.int .i64 z0, .int .i64 z1] T)) fun x w' => x = .returned (.int .i64 (AR [z0, z1])) ∧ w.alloc (.cells #[.int .i64 z0, .int .i64 z1] T) = w' := by
 have h := Ab w (.cells #[.int .i64 z0, .int .i64 z1] T)
 refine S0 w.heap.size [z0, z1] 2 _ (by simp) fun i hi => ?_
 obtain rfl | rfl : i = 0 ∨ i = 1 := by simp at hi; omega
 all_goals (unfold World.cell?; rw [h]; rfl)
set_option maxHeartbeats 1000000 in
set_option maxRecDepth 100000 in
theorem MA (N : Nat) (IH : Kb N) (t : VT) (ht : t.size < N) (t' : VT) (s s' : ByteArray) (w : World) (cs cs' : List Value) (hi : Nat) (hv : RV w 0 hi t cs) (hv' : RV w 0 hi t' cs') (hhi : hi ≤ w.heap.size) :
   Calls Tryz.prog 235 #[.agg (Value.string s :: cs).toArray, .agg (Value.string s' :: cs').toArray] w fun x w' => x = .returned (.int .i64 (AR [Dt s s', BJ t t'])) ∧ Below w.heap.size w w' := by
 obtain ⟨pk, pb, pn, ps, pa1, pl1, pc1, pa2, pl2, pc2, rfl⟩ := RV.opens hv
 obtain ⟨qk, qb, qn, qs, qa1, ql1, qc1, qa2, ql2, qc2, rfl⟩ := RV.opens hv'
 obtain ⟨z, hz⟩ : ∃ z, BJ t t' = z := ⟨_, rfl⟩
 obtain ⟨y, hy⟩ : ∃ y, Dt s s' = y := ⟨_, rfl⟩
 have HC := Lib.hid (fun (w' : World) (hb : Below w.heap.size w w') => IH t ht t' w' [.int .u8 pk, .bool pb, .int .i64 pn, .string ps, .slice pa1 pl1 pc1, .slice pa2 pl2 pc2] [.int .u8 qk, .bool qb, .int .i64 qn, .string qs, .slice qa1 ql1 qc1, .slice qa2 ql2 qc2] hi (RV.below hv (hb.mono hhi)) (RV.below hv' (hb.mono hhi)) (Nat.le_trans hhi hb.size))
 have HS := Lib.hid (K4 s s')
 rw [hz] at HC ⊢
 rw [hy] at HS ⊢
 clear hv hv' hz hy IH
 show Calls Tryz.prog 235 #[.agg #[.string s, .int .u8 pk, .bool pb, .int .i64 pn, .string ps, .slice pa1 pl1 pc1, .slice pa2 pl2 pc2], .agg #[.string s', .int .u8 qk, .bool qb, .int .i64 qn, .string qs, .slice qa1 ql1 qc1, .slice qa2 ql2 qc2]] w _
 go_enter Tryz.func235, Tryz.ntmps235
 go_wp2_with fail
 have hD := Aj (w := w) (.cells #[.string s, .int .u8 pk, .bool pb, .int .i64 pn, .string ps, .slice pa1 pl1 pc1, .slice pa2 pl2 pc2] 53) (.cells #[.string s', .int .u8 qk, .bool qb, .int .i64 qn, .string qs, .slice qa1 ql1 qc1, .slice qa2 ql2 qc2] 53)
 have hF := Ab w (.cells #[.string s, .int .u8 pk, .bool pb, .int .i64 pn, .string ps, .slice pa1 pl1 pc1, .slice pa2 pl2 pc2] 53)
 have hG := Ab (w.alloc (.cells #[.string s, .int .u8 pk, .bool pb, .int .i64 pn, .string ps, .slice pa1 pl1 pc1, .slice pa2 pl2 pc2] 53)) (.cells #[.string s', .int .u8 qk, .bool qb, .int .i64 qn, .string qs, .slice qa1 ql1 qc1, .slice qa2 ql2 qc2] 53)
 have hF2 := (Af (o := .cells #[.string s', .int .u8 qk, .bool qb, .int .i64 qn, .string qs, .slice qa1 ql1 qc1, .slice qa2 ql2 qc2] 53) hF)
 obtain ⟨f0, f1, f2, f3, f4, f5, f6, _⟩ := Ky hF2
 have esz : (w.alloc (.cells #[.string s, .int .u8 pk, .bool pb, .int .i64 pn, .string ps, .slice pa1 pl1 pc1, .slice pa2 pl2 pc2] 53)).heap.size = w.heap.size + 1 := by simp
 rw [esz] at hG
 obtain ⟨g0, g1, g2, g3, g4, g5, g6, _⟩ := Ky hG
 generalize (w.alloc (.cells #[.string s, .int .u8 pk, .bool pb, .int .i64 pn, .string ps, .slice pa1 pl1 pc1, .slice pa2 pl2 pc2] 53)).alloc (.cells #[.string s', .int .u8 qk, .bool qb, .int .i64 qn, .string qs, .slice qa1 ql1 qc1, .slice qa2 ql2 qc2] 53) = W at *
 clear hF hF2 hG esz
 refine Bg 10 3 #[true, true, true, true, true, true, true, true, true, true, false, false, false] (fun w' => Below w.heap.size w w' ∧ w'.cell? ⟨w.heap.size, 0, none⟩ = some (.string s) ∧ w'.cell? ⟨w.heap.size, 1, none⟩ = some (.int .u8 pk) ∧ w'.cell? ⟨w.heap.size, 2, none⟩ = some (.bool pb) ∧ w'.cell? ⟨w.heap.size, 3, none⟩ = some (.int .i64 pn) ∧ w'.cell? ⟨w.heap.size, 4, none⟩ = some (.string ps) ∧ w'.cell? ⟨w.heap.size, 5, none⟩ = some (.slice pa1 pl1 pc1) ∧ w'.cell? ⟨w.heap.size, 6, none⟩ = some (.slice pa2 pl2 pc2) ∧ w'.cell? ⟨w.heap.size + 1, 0, none⟩ = some (.string s') ∧ w'.cell? ⟨w.heap.size + 1, 1, none⟩ = some (.int .u8 qk) ∧ w'.cell? ⟨w.heap.size + 1, 2, none⟩ = some (.bool qb) ∧ w'.cell? ⟨w.heap.size + 1, 3, none⟩ = some (.int .i64 qn) ∧ w'.cell? ⟨w.heap.size + 1, 4, none⟩ = some (.string qs) ∧ w'.cell? ⟨w.heap.size + 1, 5, none⟩ = some (.slice qa1 ql1 qc1) ∧ w'.cell? ⟨w.heap.size + 1, 6, none⟩ = some (.slice qa2 ql2 qc2)) (by kernel_rfl) (by simp only [List.take_succ_cons, List.take_zero]; rfl) (by kernel_rfl) (by kernel_rfl) (by kernel_rfl) ?_ ?_
 · exact ⟨hD.drew, f0, f1, f2, f3, f4, f5, f6, g0, g1, g2, g3, g4, g5, g6⟩
 repeat
   first
   | go_big_quiet_skip
   | go_big_quiet_want
     apply Exists.intro
     refine ⟨fun wq hC => ?_, ?_⟩
     · obtain ⟨qb, qf0, qf1, qf2, qf3, qf4, qf5, qf6, qg0, qg1, qg2, qg3, qg4, qg5, qg6⟩ := hC
       unfold Oper.quietAt
       go_simp
       first
       | rfl
       | exact ⟨rfl, rfl⟩
       | (go_at_call 232; refine (HS.out _).mono ?_; rintro e w7 ⟨rfl, rfl⟩; with_reducible exact ⟨rfl, qb, qf0, qf1, qf2, qf3, qf4, qf5, qf6, qg0, qg1, qg2, qg3, qg4, qg5, qg6⟩)
       | (go_at_call 227; refine (HC.out _ qb).mono ?_; rintro e w8 ⟨rfl, hb⟩; with_reducible exact ⟨rfl, Aa qb qb.size hb, Ac hb qf0, Ac hb qf1, Ac hb qf2, Ac hb qf3, Ac hb qf4, Ac hb qf5, Ac hb qf6, Ac hb qg0, Ac hb qg1, Ac hb qg2, Ac hb qg3, Ac hb qg4, Ac hb qg5, Ac hb qg6⟩)
     (try simp only [Act.put, List.setIfInBounds_toArray, List.set_cons_zero, List.set_cons_succ])
     go_big_quiet_on
 refine wpQuiet_nil ?_
 rintro wy ⟨qb, qf0, qf1, qf2, qf3, qf4, qf5, qf6, qg0, qg1, qg2, qg3, qg4, qg5, qg6⟩
 refine Bl 10 _ (by kernel_rfl) (by rfl) (by rfl) (fun K hK => ?_)
 go_simp
 refine hK _ _ ?_
 clear hK K
 refine Bl 11 _ (by kernel_rfl) (by rfl) (by rfl) (fun K hK => ?_)
 go_simp
 refine (or2 _ _ _ _).mono ?_
 rintro e w9 ⟨rfl, rfl⟩
 refine hK _ _ ?_
 clear hK K
 refine Bl 12 _ (by kernel_rfl) (by rfl) (by rfl) (fun K hK => ?_)
 go_simp
 refine hK _ _ ?_
 clear hK K
 refine Dh (by kernel_rfl) ?_
 go_wp2_with fail
 go_ret
 exact ⟨rfl, qb.alloc qb.size _⟩
set_option maxHeartbeats 1000000 in
set_option maxRecDepth 100000 in
theorem K5 (N : Nat) (IH : Kb N) (w : World) (k : Int) (b : Bool) (n : Int) (s : ByteArray) (l : VL) (f : FL) (a1 : Option Addr) (x1 : Nat) (a2 : Option Addr) (x2 : Nat) (k' : Int) (b' : Bool) (n' : Int) (s' : ByteArray) (l' : VL) (f' : FL) (a1' : Option Addr) (x1' : Nat) (a2' : Option Addr) (x2' : Nat) (hi : Nat)
   (hN : 1 + l.size + f.size ≤ N) (hhi : hi ≤ w.heap.size) (hll : l.len ≤ LIM) (hfl : f.len ≤ LIM) (hll' : l'.len ≤ LIM) (hfl' : f'.len ≤ LIM)
   (hl : l.len = 0 ∨ ∃ b o, a1 = some ⟨b, o, none⟩ ∧ 0 ≤ b ∧ b < hi ∧ RL w 0 hi l b o) (hf : f.len = 0 ∨ ∃ b o, a2 = some ⟨b, o, none⟩ ∧ 0 ≤ b ∧ b < hi ∧ RF w 0 hi f b o)
   (hl' : l'.len = 0 ∨ ∃ b o, a1' = some ⟨b, o, none⟩ ∧ 0 ≤ b ∧ b < hi ∧ RL w 0 hi l' b o) (hf' : f'.len = 0 ∨ ∃ b o, a2' = some ⟨b, o, none⟩ ∧ 0 ≤ b ∧ b < hi ∧ RF w 0 hi f' b o) :
   Calls Tryz.prog 227 #[.agg #[.int .u8 k, .bool b, .int .i64 n, .string s, .slice a1 l.len x1, .slice a2 f.len x2], .agg #[.int .u8 k', .bool b', .int .i64 n', .string s', .slice a1' l'.len x1', .slice a2' f'.len x2']] w fun x w' => x = .returned (.int .i64 (BJ (.mk k b n s l f) (.mk k' b' n' s' l' f'))) ∧ Below w.heap.size w w' := by
 have HL : Hid (∀ w' : World, Below w.heap.size w w' → Calls Tryz.prog 233 #[.slice a1 l.len x1, .slice a1' l'.len x1', .func (.func 227) #[] #[]] w' fun x w2 => x = .returned (.int .i64 (CE l l')) ∧ Below w'.heap.size w' w2) := Lib.hid (fun w' hb => Sl _ _ w' _ (JT N IH w' hi l l' a1 x1 a1' x1' (by omega) (Nat.le_trans hhi hb.size) hll hll'
   (hl.imp id fun ⟨b, o, e, h0, h1, h2⟩ => ⟨b, o, e, h0, h1, RL.keep (Same.of_below (hb.mono hhi)) (Nat.le_refl _) (Nat.le_refl _) l b o h1 h2⟩) (hl'.imp id fun ⟨b, o, e, h0, h1, h2⟩ => ⟨b, o, e, h0, h1, RL.keep (Same.of_below (hb.mono hhi)) (Nat.le_refl _) (Nat.le_refl _) l' b o h1 h2⟩)))
 have HFD : Hid (∀ w' : World, Below w.heap.size w w' → Calls Tryz.prog 234 #[.slice a2 f.len x2, .slice a2' f'.len x2', .func (.func 235) #[] #[]] w' fun x w2 => x = .returned (.int .i64 (CD f f')) ∧ Below w'.heap.size w' w2) := Lib.hid (fun w' hb => Sk _ _ w' _ (JS N (fun t ht t' s s' w cs cs' hi => MA N IH t ht t' s s' w cs cs' hi) w' hi f f' a2 x2 a2' x2' (by omega) (Nat.le_trans hhi hb.size) hfl hfl'
   (hf.imp id fun ⟨b, o, e, h0, h1, h2⟩ => ⟨b, o, e, h0, h1, RF.keep (Same.of_below (hb.mono hhi)) (Nat.le_refl _) (Nat.le_refl _) f b o h1 h2⟩) (hf'.imp id fun ⟨b, o, e, h0, h1, h2⟩ => ⟨b, o, e, h0, h1, RF.keep (Same.of_below (hb.mono hhi)) (Nat.le_refl _) (Nat.le_refl _) f' b o h1 h2⟩)))
 clear hl hf hl' hf' IH
 unfold LIM at hll hfl hll' hfl'
 rw [BJ]
 by_cases hk : k = k'
 · subst hk
   rw [if_neg (by simp)]
   by_cases h1 : k = 1
   · subst h1
     rw [if_pos rfl]
     unfold Sh
     cases b <;> cases b'
     all_goals
      go_enter Tryz.func227, Tryz.ntmps227
      go_wp2
      go_ret
      exact ⟨rfl, Aj _ _⟩
   by_cases h2 : k = 2
   · subst h2
     rw [if_neg (by decide), if_pos rfl]
     have HI := Lib.hid (Pn n n')
     generalize Bp n n' = r at *
     go_enter Tryz.func227, Tryz.ntmps227
     go_wp2_with (go_at_call 231; refine (HI.out _).mono ?_; rintro e w7 ⟨rfl, rfl⟩)
     go_ret
     exact ⟨rfl, Aj _ _⟩
   by_cases h34 : k = 3 ∨ k = 4
   · rw [if_neg h1, if_neg h2, if_pos h34]
     have HI := Lib.hid (K4 s s')
     generalize Dt s s' = r at *
     rcases h34 with rfl | rfl
     all_goals
      go_enter Tryz.func227, Tryz.ntmps227
      go_wp2_with (go_at_call 232; refine (HI.out _).mono ?_; rintro e w7 ⟨rfl, rfl⟩)
      go_ret
      exact ⟨rfl, Aj _ _⟩
   by_cases h5 : k = 5
   · subst h5
     rw [if_neg (by decide), if_neg (by decide), if_neg (by decide), if_pos rfl]
     generalize CE l l' = r at *
     go_enter Tryz.func227, Tryz.ntmps227
     go_wp2_with (go_at_call 233; refine (HL.out _ (Aj _ _)).mono ?_; rintro e w7 ⟨rfl, hb⟩)
     go_ret
     exact ⟨rfl, Aa (Aj _ _) (by simp; omega) hb⟩
   by_cases h6 : k = 6
   · subst h6
     rw [if_neg (by decide), if_neg (by decide), if_neg (by decide), if_neg (by decide), if_pos rfl]
     generalize CD f f' = r at *
     go_enter Tryz.func227, Tryz.ntmps227
     go_wp2_with (go_at_call 234; refine (HFD.out _ (Aj _ _)).mono ?_; rintro e w7 ⟨rfl, hb⟩)
     go_ret
     exact ⟨rfl, Aa (Aj _ _) (by simp; omega) hb⟩
   rw [if_neg h1, if_neg h2, if_neg h34, if_neg h5, if_neg h6]
   have g1 : (k == 1) = false := by simpa using h1
   have g2 : (k == 2) = false := by simpa using h2
   have g3 : (k == 3) = false := by simp; omega
   have g4 : (k == 4) = false := by simp; omega
   have g5 : (k == 5) = false := by simpa using h5
   have g6 : (k == 6) = false := by simpa using h6
   clear h1 h2 h34 h5 h6
   go_enter Tryz.func227, Tryz.ntmps227
   go_wp2
   go_ret
   exact ⟨rfl, Aj _ _⟩
 · rw [if_pos hk]
   have HI := Lib.hid (Po k k')
   generalize Bp k k' = r at *
   have g1 : (k == k') = false := by simpa using hk
   have g2 : (k != k') = true := by simpa using hk
   clear hk
   go_enter Tryz.func227, Tryz.ntmps227
   go_wp2_with (go_at_call 230; refine (HI.out _).mono ?_; rintro e w7 ⟨rfl, rfl⟩)
   go_ret
   exact ⟨rfl, Aj _ _⟩
theorem L1 : ∀ (N : Nat), Kb N := by
 intro N
 induction N with
 | zero => intro t ht; omega
 | succ N ih =>
   intro t ht t' w cs cs' hi hv hv' hhi
   cases t with
   | mk k b n s l f =>
   cases t' with
   | mk k' b' n' s' l' f' =>
     unfold RV at hv hv'
     obtain ⟨a1, c1, a2, c2, rfl, hk, hn, hsz, hl, hf, hc1, hc2, hL, hF⟩ := hv
     obtain ⟨a1', c1', a2', c2', rfl, hk', hn', hsz', hl', hf', hc1', hc2', hL', hF'⟩ := hv'
     exact K5 N ih w k b n s l f a1 c1 a2 c2 k' b' n' s' l' f' a1' c1' a2' c2' hi (by unfold VT.size at ht; omega) hhi hl hf hl' hf' hL hF hL' hF'
theorem Ly (t t' : VT) (w : World) (cs cs' : List Value) (hi : Nat) (hv : RV w 0 hi t cs) (hv' : RV w 0 hi t' cs') (hhi : hi ≤ w.heap.size) :
  Calls Tryz.prog 227 #[.agg cs.toArray, .agg cs'.toArray] w fun x w' => x = .returned (.int .i64 (BJ t t')) ∧ Below w.heap.size w w' :=
 L1 (t.size + 1) t (Nat.lt_succ_self _) t' w cs cs' hi hv hv' hhi
end Go.Proofs.YtbemgcjckchdjaaGreatDoor
