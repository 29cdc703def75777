import Derived.Test.YtbemgcjckchdjaaGreatDoorKVa
import Derived.Test.YtbemgcjckchdjaaGreatDoorRows
import Derived.Deep.QuietTactic
import Derived.BigQuiet
/- What Compare and Same come to, over trees. No program in sight. -/
namespace Go.Proofs.YtbemgcjckchdjaaGreatDoor
open Go.RowKit
set_option linter.unusedSimpArgs false
set_option linter.unusedVariables false

def cmpI (a b : Int) : Int := if a < b then -1 else if b < a then 1 else 0
def cmpS (a b : ByteArray) : Int := if Op.bytesLess a.toList b.toList then -1 else if !(Op.bytesLess a.toList b.toList || a.toList == b.toList) then 1 else 0
def cmpB (a b : Bool) : Int := if a == b then 0 else if b then -1 else 1
mutual
def cmpV : VT → VT → Int
  | .mk k b n s l f, .mk k' b' n' s' l' f' => if k ≠ k' then cmpI k k' else if k = 1 then cmpB b b' else if k = 2 then cmpI n n' else if k = 3 ∨ k = 4 then cmpS s s' else if k = 5 then cmpL l l' else if k = 6 then cmpF f f' else 0
def cmpL : VL → VL → Int
  | .nil, .nil => 0
  | .nil, .cons _ _ => -1
  | .cons _ _, .nil => 1
  | .cons t r, .cons t' r' => if cmpV t t' ≠ 0 then cmpV t t' else cmpL r r'
def cmpF : FL → FL → Int
  | .nil, .nil => 0
  | .nil, .cons _ _ _ => -1
  | .cons _ _ _, .nil => 1
  | .cons s t r, .cons s' t' r' => if firstZ [cmpS s s', cmpV t t'] ≠ 0 then firstZ [cmpS s s', cmpV t t'] else cmpF r r'
end
mutual
def sameV : VT → VT → Bool
  | .mk k b n s l f, .mk k' b' n' s' l' f' => flatB k b n s l.len f.len k' b' n' s' l'.len f'.len && (sameL l l' && sameF f f')
def sameL : VL → VL → Bool
  | .nil, .nil => true
  | .cons t r, .cons t' r' => sameV t t' && sameL r r'
  | _, _ => false
def sameF : FL → FL → Bool
  | .nil, .nil => true
  | .cons s t r, .cons s' t' r' => (s.toList == s'.toList && sameV t t') && sameF r r'
  | _, _ => false
end
theorem cmpL_ends : ∀ (l l' : VL) (i : Nat), cmpL (l.drop i) (l'.drop i) = cmpL l l' → (l.len ≤ i ∨ l'.len ≤ i) → i ≤ l.len → i ≤ l'.len → cmpL l l' = cmpI l.len l'.len := by
  intro l l' i h ho h1 h2
  rw [← h]
  have e1 := VL.drop_len
  rcases ho with ho | ho
  · have : l.len = i := by omega
    rw [VL.drop_len l i ho]
    cases hx : l'.drop i with
    | nil =>
      have : l'.len = i := by
        rcases Nat.lt_or_ge i l'.len with hl | hl
        · obtain ⟨t, ht⟩ := VL.get?_lt l' i hl
          rw [VL.drop_step l' i t ht] at hx; cases hx
        · omega
      simp only [cmpL, cmpI]; rw [if_neg (by omega), if_neg (by omega)]
    | cons t r =>
      have : i < l'.len := by
        rcases Nat.lt_or_ge i l'.len with hl | hl
        · exact hl
        · rw [VL.drop_len l' i hl] at hx; cases hx
      simp only [cmpL, cmpI]; rw [if_pos (by omega)]
  · have : l'.len = i := by omega
    rw [VL.drop_len l' i ho]
    cases hx : l.drop i with
    | nil =>
      have : l.len = i := by
        rcases Nat.lt_or_ge i l.len with hl | hl
        · obtain ⟨t, ht⟩ := VL.get?_lt l i hl
          rw [VL.drop_step l i t ht] at hx; cases hx
        · omega
      simp only [cmpL, cmpI]; rw [if_neg (by omega), if_neg (by omega)]
    | cons t r =>
      have : i < l.len := by
        rcases Nat.lt_or_ge i l.len with hl | hl
        · exact hl
        · rw [VL.drop_len l i hl] at hx; cases hx
      simp only [cmpL, cmpI]; rw [if_neg (by omega), if_pos (by omega)]
theorem cmpF_ends : ∀ (l l' : FL) (i : Nat), cmpF (l.drop i) (l'.drop i) = cmpF l l' → (l.len ≤ i ∨ l'.len ≤ i) → i ≤ l.len → i ≤ l'.len → cmpF l l' = cmpI l.len l'.len := by
  intro l l' i h ho h1 h2
  rw [← h]
  rcases ho with ho | ho
  · have : l.len = i := by omega
    rw [FL.drop_len l i ho]
    cases hx : l'.drop i with
    | nil =>
      have : l'.len = i := by
        rcases Nat.lt_or_ge i l'.len with hl | hl
        · obtain ⟨⟨s, t⟩, ht⟩ := FL.get?_lt l' i hl
          rw [FL.drop_step l' i s t ht] at hx; cases hx
        · omega
      simp only [cmpF, cmpI]; rw [if_neg (by omega), if_neg (by omega)]
    | cons s t r =>
      have : i < l'.len := by
        rcases Nat.lt_or_ge i l'.len with hl | hl
        · exact hl
        · rw [FL.drop_len l' i hl] at hx; cases hx
      simp only [cmpF, cmpI]; rw [if_pos (by omega)]
  · have : l'.len = i := by omega
    rw [FL.drop_len l' i ho]
    cases hx : l.drop i with
    | nil =>
      have : l.len = i := by
        rcases Nat.lt_or_ge i l.len with hl | hl
        · obtain ⟨⟨s, t⟩, ht⟩ := FL.get?_lt l i hl
          rw [FL.drop_step l i s t ht] at hx; cases hx
        · omega
      simp only [cmpF, cmpI]; rw [if_neg (by omega), if_neg (by omega)]
    | cons s t r =>
      have : i < l.len := by
        rcases Nat.lt_or_ge i l.len with hl | hl
        · exact hl
        · rw [FL.drop_len l i hl] at hx; cases hx
      simp only [cmpF, cmpI]; rw [if_neg (by omega), if_pos (by omega)]
theorem cmpL_step (l l' : VL) (i : Nat) (t t' : VT) (h : l.get? i = some t) (h' : l'.get? i = some t') : cmpL (l.drop i) (l'.drop i) = if cmpV t t' ≠ 0 then cmpV t t' else cmpL (l.drop (i + 1)) (l'.drop (i + 1)) := by
  rw [VL.drop_step l i t h, VL.drop_step l' i t' h', cmpL]
theorem cmpF_step (l l' : FL) (i : Nat) (s s' : ByteArray) (t t' : VT) (h : l.get? i = some (s, t)) (h' : l'.get? i = some (s', t')) : cmpF (l.drop i) (l'.drop i) = if firstZ [cmpS s s', cmpV t t'] ≠ 0 then firstZ [cmpS s s', cmpV t t'] else cmpF (l.drop (i + 1)) (l'.drop (i + 1)) := by
  rw [FL.drop_step l i s t h, FL.drop_step l' i s' t' h', cmpF]
theorem sameL_step (l l' : VL) (i : Nat) (t t' : VT) (h : l.get? i = some t) (h' : l'.get? i = some t') : sameL (l.drop i) (l'.drop i) = (sameV t t' && sameL (l.drop (i + 1)) (l'.drop (i + 1))) := by
  rw [VL.drop_step l i t h, VL.drop_step l' i t' h', sameL]
theorem sameF_step (l l' : FL) (i : Nat) (s s' : ByteArray) (t t' : VT) (h : l.get? i = some (s, t)) (h' : l'.get? i = some (s', t')) : sameF (l.drop i) (l'.drop i) = ((s.toList == s'.toList && sameV t t') && sameF (l.drop (i + 1)) (l'.drop (i + 1))) := by
  rw [FL.drop_step l i s t h, FL.drop_step l' i s' t' h', sameF]
theorem sameL_len : ∀ (l l' : VL), l.len ≠ l'.len → sameL l l' = false
  | .nil, .nil, h => absurd rfl h
  | .nil, .cons _ _, _ => by simp [sameL]
  | .cons _ _, .nil, _ => by simp [sameL]
  | .cons t r, .cons t' r', h => by simp only [sameL]; rw [sameL_len r r' (by simpa [VL.len] using h)]; simp
theorem sameF_len : ∀ (l l' : FL), l.len ≠ l'.len → sameF l l' = false
  | .nil, .nil, h => absurd rfl h
  | .nil, .cons _ _ _, _ => by simp [sameF]
  | .cons _ _ _, .nil, _ => by simp [sameF]
  | .cons s t r, .cons s' t' r', h => by simp only [sameF]; rw [sameF_len r r' (by simpa [FL.len] using h)]; simp
end Go.Proofs.YtbemgcjckchdjaaGreatDoor
/- cmp.Compare and cmp.isNaN at Kind, int64, string. -/
namespace Go.Proofs.YtbemgcjckchdjaaGreatDoor
open Go.RowKit
set_option linter.unusedSimpArgs false
set_option linter.unusedVariables false

theorem nanK (a : Int) (w : World) : Calls Tryz.prog 236 #[.int .u8 a] w fun e w' => e = .returned (.bool false) ∧ w = w' := by
  go_enter Tryz.func236, Tryz.ntmps236
  go_wp2
  go_ret
  exact ⟨by simp, rfl⟩

set_option maxHeartbeats 400000 in
theorem compareK (a b : Int) (w : World) : Calls Tryz.prog 230 #[.int .u8 a, .int .u8 b] w fun e w' => e = .returned (.int .i64 (cmpI a b)) ∧ w = w' := by
  rcases Int.lt_trichotomy a b with h | h | h
  · have r : cmpI a b = -1 := by unfold cmpI; rw [if_pos h]
    rw [r]
    clear r
    go_enter Tryz.func230, Tryz.ntmps230
    go_wp2_with (go_at_call 236; refine (nanK _ _).mono ?_; rintro e w1 ⟨rfl, rfl⟩)
    go_ret
    exact ⟨rfl, rfl⟩
  · have r : cmpI a b = 0 := by unfold cmpI; subst h; rw [if_neg (by omega), if_neg (by omega)]
    rw [r]
    clear r
    subst h
    go_enter Tryz.func230, Tryz.ntmps230
    go_wp2_with (go_at_call 236; refine (nanK _ _).mono ?_; rintro e w1 ⟨rfl, rfl⟩)
    go_ret
    exact ⟨rfl, rfl⟩
  · have r : cmpI a b = 1 := by unfold cmpI; rw [if_neg (by omega), if_pos h]
    rw [r]
    clear r
    have h1 : ¬ a < b := by omega
    go_enter Tryz.func230, Tryz.ntmps230
    go_wp2_with (go_at_call 236; refine (nanK _ _).mono ?_; rintro e w1 ⟨rfl, rfl⟩)
    go_ret
    exact ⟨rfl, rfl⟩

theorem nanI (a : Int) (w : World) : Calls Tryz.prog 237 #[.int .i64 a] w fun e w' => e = .returned (.bool false) ∧ w = w' := by
  go_enter Tryz.func237, Tryz.ntmps237
  go_wp2
  go_ret
  exact ⟨by simp, rfl⟩

set_option maxHeartbeats 400000 in
theorem compareI (a b : Int) (w : World) : Calls Tryz.prog 231 #[.int .i64 a, .int .i64 b] w fun e w' => e = .returned (.int .i64 (cmpI a b)) ∧ w = w' := by
  rcases Int.lt_trichotomy a b with h | h | h
  · have r : cmpI a b = -1 := by unfold cmpI; rw [if_pos h]
    rw [r]
    clear r
    go_enter Tryz.func231, Tryz.ntmps231
    go_wp2_with (go_at_call 237; refine (nanI _ _).mono ?_; rintro e w1 ⟨rfl, rfl⟩)
    go_ret
    exact ⟨rfl, rfl⟩
  · have r : cmpI a b = 0 := by unfold cmpI; subst h; rw [if_neg (by omega), if_neg (by omega)]
    rw [r]
    clear r
    subst h
    go_enter Tryz.func231, Tryz.ntmps231
    go_wp2_with (go_at_call 237; refine (nanI _ _).mono ?_; rintro e w1 ⟨rfl, rfl⟩)
    go_ret
    exact ⟨rfl, rfl⟩
  · have r : cmpI a b = 1 := by unfold cmpI; rw [if_neg (by omega), if_pos h]
    rw [r]
    clear r
    have h1 : ¬ a < b := by omega
    go_enter Tryz.func231, Tryz.ntmps231
    go_wp2_with (go_at_call 237; refine (nanI _ _).mono ?_; rintro e w1 ⟨rfl, rfl⟩)
    go_ret
    exact ⟨rfl, rfl⟩

theorem nanS (a : ByteArray) (w : World) : Calls Tryz.prog 184 #[.string a] w fun e w' => e = .returned (.bool false) ∧ w = w' := by
  go_enter Tryz.func184, Tryz.ntmps184
  go_wp2
  go_ret
  exact ⟨by simp, rfl⟩

set_option maxHeartbeats 400000 in
theorem compareS (a b : ByteArray) (w : World) : Calls Tryz.prog 232 #[.string a, .string b] w fun e w' => e = .returned (.int .i64 (cmpS a b)) ∧ w = w' := by
  unfold cmpS
  cases h : Op.bytesLess a.toList b.toList with
  | true =>
    go_enter Tryz.func232, Tryz.ntmps232
    go_wp2_with (go_at_call 184; refine (nanS _ _).mono ?_; rintro e w1 ⟨rfl, rfl⟩)
    go_ret
    exact ⟨rfl, rfl⟩
  | false =>
  cases h2 : (a.toList == b.toList) with
  | true =>
    go_enter Tryz.func232, Tryz.ntmps232
    go_wp2_with (go_at_call 184; refine (nanS _ _).mono ?_; rintro e w1 ⟨rfl, rfl⟩)
    go_ret
    exact ⟨rfl, rfl⟩
  | false =>
    go_enter Tryz.func232, Tryz.ntmps232
    go_wp2_with (go_at_call 184; refine (nanS _ _).mono ?_; rintro e w1 ⟨rfl, rfl⟩)
    go_ret
    exact ⟨rfl, rfl⟩
end Go.Proofs.YtbemgcjckchdjaaGreatDoor
