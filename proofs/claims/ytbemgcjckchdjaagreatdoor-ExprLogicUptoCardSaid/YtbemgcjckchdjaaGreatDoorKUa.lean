import Derived.Test.YtbemgcjckchdjaaGreatDoorKRc
import Derived.Deep.AppendLies
import Derived.Test.YtbemgcjckchdjaaGreatDoorKMd
import Derived.KernelRfl
/- codicillaw11.with: a step behind an expression. -/
namespace Go.Proofs.YtbemgcjckchdjaaGreatDoor
open Go.RowKit
set_option linter.unusedSimpArgs false
set_option linter.unusedVariables false
theorem scells_length : ∀ l : List ST, (scells l).length = l.length * 3
  | [] => rfl
  | s :: r => by
    show ([_, _, _] ++ scells r).length = _
    rw [List.length_append, scells_length r]
    simp
    omega
theorem steps_cells {w : World} {l : List ST} {b o : Nat} (h : StepsAt w l b o) : ∀ j u, (scells l)[j]? = some u → w.cell? ((⟨b, o, none⟩ : Addr).add j) = some u := by
  intro j u hj
  have hjl : j < l.length * 3 := by
    rw [← scells_length]
    rcases Nat.lt_or_ge j (scells l).length with h' | h'
    · exact h'
    · rw [List.getElem?_eq_none h'] at hj; cases hj
  obtain ⟨i, r, hr, rfl⟩ : ∃ i r, r < 3 ∧ j = i * 3 + r := ⟨j / 3, j % 3, Nat.mod_lt _ (by decide), by omega⟩
  have hi : i < l.length := by omega
  obtain ⟨a0, a1, a2⟩ := scells_at l i hi
  obtain ⟨c0, c1, c2⟩ := h i hi
  rw [addr_add, ← Nat.add_assoc]
  obtain rfl | rfl | rfl : r = 0 ∨ r = 1 ∨ r = 2 := by omega
  · rw [Nat.add_zero] at hj ⊢; rw [a0] at hj; cases hj; exact c0
  · rw [a1] at hj; cases hj; exact c1
  · rw [a2] at hj; cases hj; exact c2
theorem scells_one : ∀ l : List ST, ∀ u ∈ scells l, u.oneCell' = true
  | [], u, h => by cases h
  | s :: r, u, h => by
    have h : u ∈ [Value.int .u8 s.k, .string s.t, .int .i64 s.n] ++ scells r := h
    simp only [List.cons_append, List.nil_append, List.mem_cons] at h
    rcases h with rfl | rfl | rfl | h
    · rfl
    · rfl
    · rfl
    · exact scells_one r u h
theorem RowS.cells {w : World} {l : List ST} {A : Option Addr} (h : RowS w l A) (hl : 0 < l.length) : ∃ b o, A = some ⟨b, o, none⟩ ∧ b < w.heap.size ∧ StepsAt w l b o := by
  rcases h with h | ⟨b, o, e, hs⟩
  · omega
  · exact ⟨b, o, e, World.block_lt_of_cell? w _ (hs 0 hl).1, hs⟩
theorem step_new {W : World} {v0 v1 v2 : Value} {T : TypeId} : ∀ j u, [v0, v1, v2][j]? = some u → (W.alloc (.cells #[v0, v1, v2] T)).cell? ((⟨W.heap.size, 0, none⟩ : Addr).add j) = some u := by
  intro j u h
  obtain ⟨c0, c1, c2, _⟩ := cells3 (heap_last W (.cells #[v0, v1, v2] T))
  rw [addr_add, Nat.zero_add]
  match j, h with
  | 0, h => cases h; exact c0
  | 1, h => cases h; exact c1
  | 2, h => cases h; exact c2
set_option maxHeartbeats 2000000 in
set_option maxRecDepth 100000 in
theorem with_calls (l : List ST) (k : Int) (a : Option Addr) (c : Nat) (w : World) (hl : 0 < l.length) (hn : l.length ≤ 1000) (hr : RowS w l a) :
    Calls Tryz.prog 10 #[.slice a l.length c, .int .u8 k] w fun e w' => ∃ A c, e = .returned (.slice A (l.length + 1) c) ∧ RowS w' (l ++ [oP k]) A ∧ Below w.heap.size w w' := by
  obtain ⟨b, o, rfl, hb, hs⟩ := hr.cells hl
  have hW : Below w.heap.size w (w.alloc (.cells #[] 43)) := below_new _
  have hs1 := hs.keep hW hb
  obtain ⟨i0, hi0, hz00, hz1, hz2⟩ := info_parts Tryz.infoS
  have HN := Lib.hid (steps_cells hs1)
  have HO := Lib.hid (owns_empty w 43 3)
  have H1 := Lib.hid (scells_one l)
  have HL := Lib.hid (scells_length l)
  obtain ⟨m, hm⟩ : ∃ m, l.length = m := ⟨_, rfl⟩
  rw [hm] at hl hn HL ⊢
  have HM := Lib.hid hm
  have E1 : Hid (0 + m ≤ maxLen) := Lib.hid (by unfold maxLen; omega)
  have E2 : Hid ((0 + m) * 32 ≤ 140737488355328) := Lib.hid (by omega)
  have E3 : Hid (m + 1 ≤ maxLen) := Lib.hid (by unfold maxLen; omega)
  have E4 : Hid ((m + 1) * 32 ≤ 140737488355328) := Lib.hid (by omega)
  have HW := Lib.hid hW
  clear hm hs hs1 hr hW
  go_enter Tryz.func10, Tryz.ntmps10
  go_wp2_with (first
    | (at_builtin; refine wpList_append_lies _ rfl _ _ 22 rfl w.heap.size 43 i0 (.agg #[.int .u8 0, .string ⟨#[]⟩, .int .i64 0]) 3 32 Tryz.underlying22 hi0 hz00 hz1 hz2 rfl (by decide) (.slice (some ⟨w.heap.size, 0, none⟩) 0 0) 0 [] (by rfl) HO.out ⟨b, o, none⟩ m c (scells l) (by rfl) HL.out HN.out H1.out hl E1.out E2.out (by simp) (w.heap.size + 1) (by simp) ?_; intro g cap w2 hown hgrow hat2 hlt2; have HB2 := Lib.hid (HW.out.grown hgrow (by simp) (fun k hk => by cases hk; exact Nat.le_refl _)); rw [Nat.zero_add] at hown; have HO2 := Lib.hid hown; clear hown hgrow hat2 hlt2)
    | (at_builtin; refine wpList_append_lies _ rfl _ _ 22 rfl w.heap.size 43 i0 (.agg #[.int .u8 0, .string ⟨#[]⟩, .int .i64 0]) 3 32 Tryz.underlying22 hi0 hz00 hz1 hz2 rfl (by decide) (.slice (some ⟨g, 0, none⟩) m cap) m ([] ++ scells l) (by rfl) (HO2.out.alloc _) ⟨w2.heap.size, 0, none⟩ 1 1 [.int .u8 k, .string ⟨#[]⟩, .int .i64 0] (by rfl) rfl step_new (by intro u hu; simp only [List.mem_cons, List.not_mem_nil, or_false] at hu; rcases hu with rfl | rfl | rfl <;> rfl) (by decide) E3.out E4.out (by have := HB2.out.size; simp; omega) (w2.heap.size + 1) (by simp) ?_; intro g3 cap3 w3 hown hgrow hat2 hlt2; have HB3 := Lib.hid ((below_call0 HB2.out HB2.out.size (below_new _)).grown hgrow (by have := HB2.out.size; simp; omega) (fun k hk => (HO2.out.lt k hk).1)); have HO3 := Lib.hid hown; clear hown hgrow hat2 hlt2))
  go_ret
  have ho := HO3.out
  refine ⟨some ⟨g3, 0, none⟩, cap3, rfl, ?_, HB3.out⟩
  refine step_row (B := w.heap.size) (c := cap3) ?_
  rw [List.length_append, HM.out, scells_snoc]
  exact ho
end Go.Proofs.YtbemgcjckchdjaaGreatDoor
/- Right expressions behind one another (plain). -/
namespace Go.Proofs.YtbemgcjckchdjaaGreatDoor
open Go.RowKit
set_option linter.unusedSimpArgs false
set_option linter.unusedVariables false
theorem stackE_cons (row : VT) (s : ST) (l : List ST) (stk : List Rz) : stackE row (s :: l) stk = stackE row l (stepE row stk s) := rfl
theorem stackE_app (row : VT) (a b : List ST) (stk : List Rz) : stackE row (a ++ b) stk = stackE row b (stackE row a stk) := by
  unfold stackE
  rw [List.foldl_append]
theorem right_step {m : Int} {s : ST} {m' : Int} (h : rightStep (some m) s = some m') : s.ok = true ∧ 0 ≤ s.takes ∧ s.takes ≤ m ∧ m' = m - (s.takes - 1) := by
  by_cases hc : (s.ok && decide (s.takes ≤ m)) = true
  · have e : rightStep (some m) s = some (m - (s.takes - 1)) := if_pos hc
    rw [e] at h
    simp only [Bool.and_eq_true, decide_eq_true_eq] at hc
    exact ⟨hc.1, (takes_range s hc.1).1, hc.2, (Option.some.inj h).symm⟩
  · have e : rightStep (some m) s = none := if_neg hc
    rw [e] at h
    cases h
theorem right_head {m : Int} {s : ST} {l : List ST} {m' : Int} (h : (s :: l).foldl rightStep (some m) = some m') : ∃ m1, rightStep (some m) s = some m1 ∧ l.foldl rightStep (some m1) = some m' := by
  rw [List.foldl_cons] at h
  cases hs : rightStep (some m) s with
  | none => rw [hs, rightAt_none] at h; cases h
  | some m1 => rw [hs] at h; exact ⟨m1, rfl, h⟩
/-- what lies below is not touched -/
theorem stack_frame (row : VT) : ∀ (l : List ST) (m : Int) (s0 stk : List Rz), l.foldl rightStep (some (s0.length : Int)) = some m → stackE row l (stk ++ s0) = stk ++ stackE row l s0 ∧ ((stackE row l s0).length : Int) = m
  | [], m, s0, stk, h => by
    have : (s0.length : Int) = m := Option.some.inj h
    exact ⟨rfl, this⟩
  | s :: l, m, s0, stk, h => by
    obtain ⟨m1, h1, h2⟩ := right_head h
    obtain ⟨hok, t0, tl, e⟩ := right_step h1
    have ht : (s.takes.toNat : Int) = s.takes := by omega
    have htl : s.takes.toNat ≤ s0.length := by omega
    have hlen : (stepE row s0 s).length = s0.length - s.takes.toNat + 1 := by
      unfold stepE
      rw [List.length_append, List.length_take]
      simp
    have hst : stepE row (stk ++ s0) s = stk ++ stepE row s0 s := by
      unfold stepE
      rw [List.length_append, show stk.length + s0.length - s.takes.toNat = stk.length + (s0.length - s.takes.toNat) by omega, List.take_append, List.drop_append]
      rw [List.take_of_length_le (by omega), List.drop_of_length_le (by omega)]
      simp [Nat.add_sub_cancel_left]
    have ih := stack_frame row l m (stepE row s0 s) stk (by rw [hlen, ← h2, e]; congr 2; omega)
    rw [stackE_cons, hst, stackE_cons]
    exact ih
theorem right_shift : ∀ (l : List ST) (m m' j : Int), 0 ≤ j → l.foldl rightStep (some m) = some m' → l.foldl rightStep (some (m + j)) = some (m' + j)
  | [], m, m', j, hj, h => by cases h; rfl
  | s :: l, m, m', j, hj, h => by
    obtain ⟨m1, h1, h2⟩ := right_head h
    obtain ⟨hok, t0, tl, e⟩ := right_step h1
    have h3 : rightStep (some (m + j)) s = some (m1 + j) := by
      have hc : (s.ok && decide (s.takes ≤ m + j)) = true := by simp [hok]; omega
      have e2 : rightStep (some (m + j)) s = some (m + j - (s.takes - 1)) := if_pos hc
      rw [e2, e]
      congr 1
      omega
    rw [List.foldl_cons, h3]
    exact right_shift l m1 m' j hj h2
theorem right_stack {a : List ST} (h : rightAt a = some 1) (row : VT) (stk : List Rz) : stackE row a stk = stk ++ [treeE row a] := by
  obtain ⟨h1, h2⟩ := stack_frame row a 1 [] stk h
  rw [List.append_nil] at h1
  rw [h1]
  congr 1
  unfold treeE
  match hs : stackE row a [], h2 with
  | [x], _ => rfl
theorem right_pos {a : List ST} (h : rightAt a = some 1) : 0 < a.length := by
  cases a with
  | nil => cases h
  | cons s r => simp
theorem right_pair {a b : List ST} (ha : rightAt a = some 1) (hb : rightAt b = some 1) : rightAt (a ++ b) = some 2 := by
  unfold rightAt
  rw [List.foldl_append]
  have h1 : a.foldl rightStep (some 0) = some 1 := ha
  rw [h1]
  exact right_shift b 0 1 1 (by decide) hb
theorem right_snoc {l : List ST} {s : ST} {m m' : Int} (h : rightAt l = some m) (hs : rightStep (some m) s = some m') : rightAt (l ++ [s]) = some m' := by
  unfold rightAt at *
  rw [List.foldl_append, h]
  exact hs
theorem right_of {l : List ST} (h : rightB l = true) : rightAt l = some 1 ∧ l.length ≤ 128 := right_parts h
theorem right_is {l : List ST} (h : rightAt l = some 1) (hl : l.length ≤ 128) : rightB l = true := by
  unfold rightB
  simp [h, hl]
theorem oP_two {k : Int} (h : 12 ≤ k ∧ k ≤ 22) : rightStep (some 2) (oP k) = some 1 := by
  obtain rfl | rfl | rfl | rfl | rfl | rfl | rfl | rfl | rfl | rfl | rfl : k = 12 ∨ k = 13 ∨ k = 14 ∨ k = 15 ∨ k = 16 ∨ k = 17 ∨ k = 18 ∨ k = 19 ∨ k = 20 ∨ k = 21 ∨ k = 22 := by omega
  all_goals kernel_rfl
theorem oP_one {k : Int} (h : 9 ≤ k ∧ k ≤ 11) : rightStep (some 1) (oP k) = some 1 := by
  obtain rfl | rfl | rfl : k = 9 ∨ k = 10 ∨ k = 11 := by omega
  all_goals kernel_rfl
theorem takes_two {k : Int} (h : 12 ≤ k ∧ k ≤ 22) : (oP k).takes = 2 := by
  show stepN k 0 = 2
  unfold stepN
  rw [if_neg (by omega), if_neg (by omega), if_neg (by omega)]
theorem takes_one {k : Int} (h : 9 ≤ k ∧ k ≤ 11) : (oP k).takes = 1 := by
  show stepN k 0 = 1
  unfold stepN
  rw [if_neg (by omega), if_neg (by omega), if_pos h]
/-- two expressions and an operator of both -/
theorem tree_two {a b : List ST} (ha : rightAt a = some 1) (hb : rightAt b = some 1) {k : Int} (hk : 12 ≤ k ∧ k ≤ 22) (row : VT) : treeE row (a ++ b ++ [oP k]) = oneR (oP k) row [treeE row a, treeE row b] := by
  have h : stackE row (a ++ b ++ [oP k]) [] = [oneR (oP k) row [treeE row a, treeE row b]] := by
    rw [stackE_app, stackE_app, right_stack ha, right_stack hb, List.nil_append]
    show stepE row ([treeE row a] ++ [treeE row b]) (oP k) = _
    unfold stepE
    rw [takes_two hk]
    rfl
  unfold treeE
  rw [show stackE row (a ++ b ++ [oP k]) [] = _ from h]
  rfl
theorem tree_one {a : List ST} (ha : rightAt a = some 1) {k : Int} (hk : 9 ≤ k ∧ k ≤ 11) (row : VT) : treeE row (a ++ [oP k]) = oneR (oP k) row [treeE row a] := by
  have h : stackE row (a ++ [oP k]) [] = [oneR (oP k) row [treeE row a]] := by
    rw [stackE_app, right_stack ha, List.nil_append]
    show stepE row [treeE row a] (oP k) = _
    unfold stepE
    rw [takes_one hk]
    rfl
  unfold treeE
  rw [show stackE row (a ++ [oP k]) [] = _ from h]
  rfl
theorem eval_two {a b : List ST} (ha : rightB a = true) (hb : rightB b = true) {k : Int} (hk : 12 ≤ k ∧ k ≤ 22) {row : VT} (hc : checkV row 0 = 0) (hl : a.length + b.length + 1 ≤ 128) : rightB (a ++ b ++ [oP k]) = true ∧ evalE (a ++ b ++ [oP k]) row = oneR (oP k) row [treeE row a, treeE row b] := by
  have h1 := (right_of ha).1
  have h2 := (right_of hb).1
  have hr : rightB (a ++ b ++ [oP k]) = true := right_is (right_snoc (right_pair h1 h2) (oP_two hk)) (by simp; omega)
  refine ⟨hr, ?_⟩
  unfold evalE
  rw [hr, if_pos rfl, if_pos hc, tree_two h1 h2 hk]
theorem eval_one {a : List ST} (ha : rightB a = true) {k : Int} (hk : 9 ≤ k ∧ k ≤ 11) {row : VT} (hc : checkV row 0 = 0) (hl : a.length + 1 ≤ 128) : rightB (a ++ [oP k]) = true ∧ evalE (a ++ [oP k]) row = oneR (oP k) row [treeE row a] := by
  have h1 := (right_of ha).1
  have hr : rightB (a ++ [oP k]) = true := right_is (right_snoc h1 (oP_one hk)) (by simp; omega)
  refine ⟨hr, ?_⟩
  unfold evalE
  rw [hr, if_pos rfl, if_pos hc, tree_one h1 hk]
/-- an expression that comes to a value is right, its row too -/
theorem eval_ok {a : List ST} {row v : VT} (h : evalE a row = (v, 0)) : rightB a = true ∧ checkV row 0 = 0 ∧ treeE row a = (v, 0) := by
  unfold evalE at h
  split at h
  · rename_i hr
    split at h
    · rename_i hc
      exact ⟨hr, hc, h⟩
    · rename_i hc
      exact absurd (congrArg Prod.snd h) hc
  · cases h
theorem one_logic_two {k : Int} (hk : k = 21 ∨ k = 22) (row : VT) (u v : Rz) : oneR (oP k) row [u, v] = logicR (k == 22) u v := by
  unfold oneR
  rw [if_neg (by simp; omega), if_neg (by simp; omega), if_pos hk]
  rfl
theorem one_oper_two {k : Int} (hk : 12 ≤ k ∧ k ≤ 20) (row : VT) (u v : Rz) : oneR (oP k) row [u, v] = operR k [u, v] := by
  unfold oneR
  rw [if_neg (by simp; omega), if_neg (by simp; omega), if_neg (by simp; omega), if_neg (by simp)]
end Go.Proofs.YtbemgcjckchdjaaGreatDoor
/- ExprNull: the plain law. -/
namespace Go.Proofs.YtbemgcjckchdjaaGreatDoor
open Go.RowKit
set_option linter.unusedSimpArgs false
set_option linter.unusedVariables false
/-- a null is not true -/
def Tid (v : VT) : Prop := v.kind = 0 → v.bool = false
theorem tid_null : Tid nullV := fun _ => rfl
theorem tid_kind {v : VT} (h : v.kind ≠ 0) : Tid v := fun e => absurd e h
theorem check_parts {k : Int} {b : Bool} {n : Int} {s : ByteArray} {l : VL} {f : FL} {d : Int} (h : checkV (.mk k b n s l f) d = 0) : headZ k b n s l.len f.len d = 0 ∧ checkL l (d + 1) = 0 ∧ checkF Ez f (d + 1) = 0 := by
  unfold checkV at h
  by_cases h1 : headZ k b n s l.len f.len d ≠ 0
  · rw [if_pos h1] at h; exact absurd h h1
  · rw [if_neg h1] at h
    by_cases h2 : checkL l (d + 1) ≠ 0
    · rw [if_pos h2] at h; exact absurd h h2
    · rw [if_neg h2] at h
      exact ⟨Classical.not_not.1 h1, Classical.not_not.1 h2, h⟩
theorem check_tid {t : VT} {d : Int} (h : checkV t d = 0) : Tid t := by
  obtain ⟨k, b, n, s, l, f⟩ := t
  obtain ⟨h1, _, _⟩ := check_parts h
  intro hk
  have hk : k = 0 := hk
  subst hk
  unfold headZ firstZ at h1
  by_cases hs : shapeB 0 b n s l.len f.len = true
  · unfold shapeB flatB at hs
    simp at hs
    show b = false
    exact hs.1
  · rw [Bool.not_eq_true] at hs
    rw [hs] at h1
    simp [unlessZ] at h1
theorem checkL_get : ∀ (l : VL) (d : Int) (i : Nat) (t : VT), checkL l d = 0 → l.get? i = some t → checkV t d = 0
  | .nil, d, i, t, h, e => by simp [VL.get?] at e
  | .cons x r, d, i, t, h, e => by
    unfold checkL at h
    by_cases hx : checkV x d ≠ 0
    · rw [if_pos hx] at h; exact absurd h hx
    · rw [if_neg hx] at h
      cases i with
      | zero =>
        have : x = t := by simpa [VL.get?] using e
        subst this
        exact Classical.not_not.1 hx
      | succ i => exact checkL_get r d i t h (by simpa [VL.get?] using e)
theorem checkF_get : ∀ (f : FL) (last : ByteArray) (d : Int) (i : Nat) (s : ByteArray) (t : VT), checkF last f d = 0 → f.get? i = some (s, t) → checkV t d = 0
  | .nil, last, d, i, s, t, h, e => by simp [FL.get?] at e
  | .cons n x r, last, d, i, s, t, h, e => by
    unfold checkF at h
    by_cases h1 : firstZ [nameZ n, unlessZ (Op.bytesLess last.toList n.toList) 18] ≠ 0
    · rw [if_pos h1] at h; exact absurd h h1
    · rw [if_neg h1] at h
      by_cases hx : checkV x d ≠ 0
      · rw [if_pos hx] at h; exact absurd h hx
      · rw [if_neg hx] at h
        cases i with
        | zero =>
          have : n = s ∧ x = t := by simpa [FL.get?] using e
          rw [← this.2]
          exact Classical.not_not.1 hx
        | succ i => exact checkF_get r n d i s t h (by simpa [FL.get?] using e)
theorem get_tid : ∀ (p : List ByteArray) (t : VT) (d : Int) (v : VT), checkV t d = 0 → getV t p = some v → Tid v
  | [], t, d, v, h, e => by
    have : t = v := by simpa [getV] using e
    subst this
    exact check_tid h
  | n :: r, .mk k b m s l f, d, v, h, e => by
    obtain ⟨_, h2, h3⟩ := check_parts h
    unfold getV at e
    by_cases h6 : k = 6
    · rw [if_pos h6] at e
      cases hg : f.get? (idxF n f 0).toNat with
      | none => rw [hg] at e; cases e
      | some x =>
        obtain ⟨s', t'⟩ := x
        rw [hg] at e
        simp only at e
        split at e
        · cases e
        · exact get_tid r t' _ v (checkF_get f _ _ _ s' t' h3 hg) e
    · rw [if_neg h6] at e
      by_cases h5 : k = 5
      · rw [if_pos h5] at e
        cases hz : idxZ n l.len with
        | none => rw [hz] at e; cases e
        | some i =>
          rw [hz] at e
          simp only at e
          cases hg : l.get? i with
          | none => rw [hg] at e; cases e
          | some t' =>
            rw [hg] at e
            exact get_tid r t' _ v (checkL_get l _ i t' h2 hg) e
      · rw [if_neg h5] at e; cases e
theorem flag_tid {r : Rz} (h : Tid r.1) : Tid (flagR r).1 := by
  unfold flagR
  split
  · exact tid_null
  · split
    · exact tid_null
    · exact h
theorem logic_tid {o : Bool} {a b : Rz} (ha : Tid a.1) (hb : Tid b.1) : Tid (logicR o a b).1 := by
  unfold logicR
  split
  · exact flag_tid ha
  · split
    · exact flag_tid ha
    · exact flag_tid hb
theorem counted_tid (k : Int) (a b : VT) : Tid (countedR k a b).1 := by
  unfold countedR
  split
  · split
    · exact tid_kind (show (2 : Int) ≠ 0 by decide)
    · exact tid_null
  · exact tid_null
theorem truth_tid (b : Bool) : Tid (truthV b) := tid_kind (show (1 : Int) ≠ 0 by decide)
theorem held_tid (k : Int) (a b : VT) : Tid (heldR k a b).1 := by
  unfold heldR
  repeat' split
  all_goals first | exact truth_tid _ | exact tid_null
theorem oper_tid (k : Int) (l : List Rz) : Tid (operR k l).1 := by
  unfold operR
  split
  · exact tid_null
  · repeat' split
    all_goals first | exact truth_tid _ | exact tid_null | exact counted_tid _ _ _ | exact held_tid _ _ _
theorem checked_tid {v : VT} (h : v.kind ≠ 0) : Tid (checkedR v).1 := by
  unfold checkedR
  split
  · exact tid_kind h
  · exact tid_null
theorem make_tid (names : Option (List ByteArray)) (l : List Rz) : Tid (makeR names l).1 := by
  unfold makeR
  cases allR l with
  | error e => exact tid_null
  | ok vs =>
    cases names with
    | none => exact checked_tid (v := listV (toVL vs)) (show (5 : Int) ≠ 0 by decide)
    | some ns => exact checked_tid (v := structV (putsF .nil ns vs)) (show (6 : Int) ≠ 0 by decide)
theorem getD_tid {l : List Rz} (h : ∀ r ∈ l, Tid r.1) (i : Nat) : Tid (l.getD i (nullV, 0)).1 := by
  rcases Nat.lt_or_ge i l.length with hi | hi
  · rw [List.getD, List.getElem?_eq_getElem hi]
    exact h _ (List.getElem_mem hi)
  · rw [List.getD, List.getElem?_eq_none hi]
    exact tid_null
theorem one_tid (s : ST) {row : VT} (hc : checkV row 0 = 0) {l : List Rz} (h : ∀ r ∈ l, Tid r.1) : Tid (oneR s row l).1 := by
  unfold oneR
  split
  · exact make_tid _ _
  · split
    · exact make_tid _ _
    · split
      · exact logic_tid (getD_tid h 0) (getD_tid h 1)
      · split
        · unfold leafR
          split
          · exact truth_tid _
          · split
            · exact tid_kind (show (2 : Int) ≠ 0 by decide)
            · split
              · exact tid_kind (show (3 : Int) ≠ 0 by decide)
              · split
                · cases hg : getV row (splitS s.t dot) with
                  | none => exact tid_null
                  | some v => exact get_tid _ row 0 v hc hg
                · exact tid_null
        · exact oper_tid _ _
theorem stack_tid {row : VT} (hc : checkV row 0 = 0) : ∀ (l : List ST) (stk : List Rz), (∀ r ∈ stk, Tid r.1) → ∀ r ∈ stackE row l stk, Tid r.1
  | [], stk, h => h
  | s :: l, stk, h => by
    rw [stackE_cons]
    refine stack_tid hc l _ (fun r hr => ?_)
    unfold stepE at hr
    rcases List.mem_append.1 hr with hr | hr
    · exact h r (List.mem_of_mem_take hr)
    · simp only [List.mem_singleton] at hr
      subst hr
      exact one_tid s hc (fun r hr => h r (List.mem_of_mem_drop hr))
theorem tree_tid {row : VT} (hc : checkV row 0 = 0) (l : List ST) : Tid (treeE row l).1 := getD_tid (stack_tid hc l [] (fun r h => by cases h)) 0
abbrev nP : ST := ⟨1, ⟨#[]⟩, 0⟩
theorem right_null : rightB [nP] = true := by kernel_rfl
theorem tree_null (row : VT) : treeE row [nP] = (nullV, 0) := by
  have t1 : nP.takes = 0 := by kernel_rfl
  unfold treeE stackE
  simp only [List.foldl_cons, List.foldl_nil]
  unfold stepE
  rw [t1]
  rfl
section
variable {a : List ST} {row v : VT} {k : Int}
theorem null_left (h : evalE a row = (v, 0)) (hl : a.length + 2 ≤ 128) (hk : 12 ≤ k ∧ k ≤ 22) : evalE ([nP] ++ a ++ [oP k]) row = oneR (oP k) row [(nullV, 0), (v, 0)] := by
  obtain ⟨h1, h2, h3⟩ := eval_ok h
  rw [(eval_two right_null h1 hk h2 (by simp; omega)).2, tree_null, h3]
theorem null_right (h : evalE a row = (v, 0)) (hl : a.length + 2 ≤ 128) (hk : 12 ≤ k ∧ k ≤ 22) : evalE (a ++ [nP] ++ [oP k]) row = oneR (oP k) row [(v, 0), (nullV, 0)] := by
  obtain ⟨h1, h2, h3⟩ := eval_ok h
  rw [(eval_two h1 right_null hk h2 (by simp; omega)).2, tree_null, h3]
theorem null_oper (hk : 12 ≤ k ∧ k ≤ 20) : oneR (oP k) row [(nullV, 0), (v, 0)] = (nullV, 0) ∧ oneR (oP k) row [(v, 0), (nullV, 0)] = (nullV, 0) := by
  rw [one_oper_two hk, one_oper_two hk]
  constructor
  · unfold operR allR allR allR
    simp only []
    rw [if_neg (by simp), if_neg (by simp)]
    simp only []
    rw [if_neg (by omega), if_pos (by simp [VT.kind])]
  · unfold operR allR allR allR
    simp only []
    rw [if_neg (by simp), if_neg (by simp)]
    simp only []
    rw [if_neg (by omega), if_pos (by simp [VT.kind])]
theorem flag_null : flagR (nullV, 0) = (nullV, 0) := rfl
/-- AND, OR: neither null nor a bool -/
theorem null_type (hk : k = 21 ∨ k = 22) (hv : 1 < v.kind) : oneR (oP k) row [(v, 0), (nullV, 0)] = (nullV, 5) ∧ oneR (oP k) row [(nullV, 0), (v, 0)] = (if k = 21 then (nullV, 0) else (nullV, 5)) := by
  have hf : flagR (v, 0) = (nullV, 5) := by
    unfold flagR
    rw [if_neg (by simp), if_pos hv]
  rw [one_logic_two hk, one_logic_two hk]
  unfold logicR
  rw [hf, flag_null]
  rcases hk with rfl | rfl
  · exact ⟨rfl, rfl⟩
  · exact ⟨rfl, rfl⟩
/-- AND, OR of a null and a truth -/
theorem null_truth (hk : k = 21 ∨ k = 22) (hv : v.kind = 0 ∨ v.kind = 1) (ht : Tid v) :
    (oneR (oP k) row [(v, 0), (nullV, 0)] = (v, 0) ∨ ((v.kind == 1) && (v.bool == (k == 22))) = false ∧ oneR (oP k) row [(v, 0), (nullV, 0)] = (nullV, 0)) ∧
    (oneR (oP k) row [(nullV, 0), (v, 0)] = (nullV, 0) ∨ ((v.kind == 1) && (v.bool == (k == 22))) = true ∧ oneR (oP k) row [(nullV, 0), (v, 0)] = (v, 0)) := by
  have hf : flagR (v, 0) = (v, 0) := by
    unfold flagR
    rw [if_neg (by simp), if_neg (by simp; omega)]
  rw [one_logic_two hk, one_logic_two hk]
  unfold logicR
  rw [hf, flag_null]
  obtain ⟨kv, b, n, s, l, f⟩ := v
  have hv : kv = 0 ∨ kv = 1 := hv
  have ht : kv = 0 → b = false := ht
  show ((if (decide ((0 : Int) ≠ 0) || b == (k == 22)) = true then _ else _) = _ ∨ _) ∧ _
  rcases hk with rfl | rfl <;> rcases hv with rfl | rfl <;> cases b <;> simp_all [VT.kind, VT.bool]
end
end Go.Proofs.YtbemgcjckchdjaaGreatDoor
/- A value in a box; the steps of ExprNull. -/
namespace Go.Proofs.YtbemgcjckchdjaaGreatDoor
open Go.RowKit
set_option linter.unusedSimpArgs false
set_option linter.unusedVariables false
def RowBox (g : Nat) (t : VT) (w : World) (c0 c1 c2 c3 c4 c5 : Value) : Prop := w.heap[g]? = some (.cells #[c0, c1, c2, c3, c4, c5] 27 (0, 0)) ∧ RV w 0 w.heap.size t [c0, c1, c2, c3, c4, c5]
theorem RowBox.keep {g : Nat} {t : VT} {w w' : World} {c0 c1 c2 c3 c4 c5 : Value} (h : RowBox g t w c0 c1 c2 c3 c4 c5) (hb : Below w.heap.size w w') : RowBox g t w' c0 c1 c2 c3 c4 c5 := ⟨blk hb h.1, h.2.grow hb⟩
theorem ok_nP : StOk nP := ⟨show I64 0 by unfold I64; decide, show (⟨#[]⟩ : ByteArray).size ≤ LIM by decide, show (0 : Int) ≤ 1 by decide⟩
theorem ok_oP {k : Int} (h : 0 ≤ k) : StOk (oP k) := ⟨show I64 0 by unfold I64; decide, show (⟨#[]⟩ : ByteArray).size ≤ LIM by decide, h⟩
theorem null_steps {l : List ST} {k : Int} (h : ∀ s ∈ l, StOk s) (hk : 0 ≤ k) : ∀ s ∈ [nP] ++ l ++ [oP k], StOk s := by
  intro s hs
  rcases List.mem_append.1 hs with hs | hs
  · rcases List.mem_append.1 hs with hs | hs
    · simp only [List.mem_singleton] at hs; subst hs; exact ok_nP
    · exact h s hs
  · simp only [List.mem_singleton] at hs; subst hs; exact ok_oP hk
theorem null_steps' {l : List ST} {k : Int} (h : ∀ s ∈ l, StOk s) (hk : 0 ≤ k) : ∀ s ∈ l ++ [nP] ++ [oP k], StOk s := by
  intro s hs
  rcases List.mem_append.1 hs with hs | hs
  · rcases List.mem_append.1 hs with hs | hs
    · exact h s hs
    · simp only [List.mem_singleton] at hs; subst hs; exact ok_nP
  · simp only [List.mem_singleton] at hs; subst hs; exact ok_oP hk
mutual
theorem sameV_refl' : ∀ t : VT, sameV t t = true
  | .mk k b n s l f => by
    unfold sameV flatB
    rw [sameL_refl' l, sameF_refl' f]
    simp
theorem sameL_refl' : ∀ l : VL, sameL l l = true
  | .nil => rfl
  | .cons t r => by
    unfold sameL
    rw [sameV_refl' t, sameL_refl' r]
    rfl
theorem sameF_refl' : ∀ f : FL, sameF f f = true
  | .nil => rfl
  | .cons s t r => by
    unfold sameF
    rw [sameV_refl' t, sameF_refl' r]
    simp
end
end Go.Proofs.YtbemgcjckchdjaaGreatDoor
