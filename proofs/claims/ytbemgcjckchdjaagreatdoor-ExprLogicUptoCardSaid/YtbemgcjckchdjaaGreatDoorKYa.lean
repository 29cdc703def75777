import Derived.Test.YtbemgcjckchdjaaGreatDoorKUa
/- ExprLogic: the plain law. -/
namespace Go.Proofs.YtbemgcjckchdjaaGreatDoor
open Go.RowKit
set_option linter.unusedSimpArgs false
set_option linter.unusedVariables false
theorem one_oper_one {k : Int} (hk : 9 ≤ k ∧ k ≤ 11) (row : VT) (u : Rz) : oneR (oP k) row [u] = operR k [u] := by
  unfold oneR oP
  rw [if_neg (by show ¬ k = 7; omega), if_neg (by show ¬ k = 8; omega), if_neg (by show ¬ (k = 21 ∨ k = 22); omega), if_neg (by simp)]
section
variable {a b : List ST} {row p q : VT}
theorem logic_isnull (h : evalE a row = (p, 0)) (hl : a.length + 1 ≤ 128) : evalE (a ++ [oP 11]) row = (truthV (p.kind == 0), 0) := by
  obtain ⟨h1, h2, h3⟩ := eval_ok h
  rw [(eval_one h1 (by omega) h2 hl).2, h3, one_oper_one (by omega)]
  simp [operR, allR]
theorem oper_notP (hp : p.kind = 1) : operR 10 [(p, 0)] = (truthV (!p.bool), 0) := by
  simp [operR, allR, hp]
theorem logic_not (h : evalE a row = (p, 0)) (hl : a.length + 1 ≤ 128) (hp : p.kind = 1) : evalE (a ++ [oP 10]) row = (truthV (!p.bool), 0) := by
  obtain ⟨h1, h2, h3⟩ := eval_ok h
  rw [(eval_one h1 (by omega) h2 hl).2, h3, one_oper_one (by omega), oper_notP hp]
theorem flag_one (hp : p.kind = 1) : flagR (p, 0) = (p, 0) := by
  unfold flagR
  rw [if_neg (by simp), if_neg (by show ¬ 1 < p.kind; omega)]
theorem logic_bools (o : Bool) (hp : p.kind = 1) (hq : q.kind = 1) : ∃ r, logicR o (p, 0) (q, 0) = (r, 0) ∧ r.bool = (if o then (p.bool || q.bool) else (p.bool && q.bool)) := by
  have e0 : decide ((1 : Int) = 0) = false := by decide
  unfold logicR
  rw [flag_one hp, flag_one hq]
  simp only [hp, e0, Bool.and_false, Bool.false_eq_true, if_false]
  by_cases hb : p.bool = o
  · rw [if_pos (by simp [hb])]
    refine ⟨p, rfl, ?_⟩
    cases o <;> simp [hb]
  · rw [if_neg (by simp [hb])]
    refine ⟨q, rfl, ?_⟩
    cases o <;> cases hpb : p.bool <;> simp_all
theorem logic_two (k : Int) (hk : k = 21 ∨ k = 22) (h : evalE a row = (p, 0)) (h' : evalE b row = (q, 0)) (hl : a.length + b.length + 2 ≤ 128) (hp : p.kind = 1) (hq : q.kind = 1) : ∃ r, evalE (a ++ b ++ [oP k]) row = (r, 0) ∧ r.bool = (if k == 22 then (p.bool || q.bool) else (p.bool && q.bool)) := by
  obtain ⟨h1, h2, h3⟩ := eval_ok h
  obtain ⟨h4, h5, h6⟩ := eval_ok h'
  obtain ⟨r, hr, hb⟩ := logic_bools (k == 22) hp hq
  exact ⟨r, by rw [(eval_two h1 h4 (by omega) h2 (by omega)).2, h3, h6, one_logic_two hk, hr], hb⟩
/-- what = and <> come to -/
def eqR (k : Int) (p q : VT) : VT := if p.kind == 0 || q.kind == 0 then nullV else if k = 15 then truthV (decide (cmpV p q = 0)) else truthV (decide (cmpV p q ≠ 0))
theorem logic_eq (k : Int) (hk : k = 15 ∨ k = 16) (h : evalE a row = (p, 0)) (h' : evalE b row = (q, 0)) (hl : a.length + b.length + 2 ≤ 128) : evalE (a ++ b ++ [oP k]) row = (eqR k p q, 0) := by
  obtain ⟨h1, h2, h3⟩ := eval_ok h
  obtain ⟨h4, h5, h6⟩ := eval_ok h'
  rw [(eval_two h1 h4 (by omega) h2 (by omega)).2, h3, h6, one_oper_two (by omega)]
  unfold eqR
  cases hn : (p.kind == 0 || q.kind == 0) with
  | true => rcases hk with rfl | rfl <;> simp [operR, allR, hn]
  | false =>
    simp only [Bool.or_eq_false_iff] at hn
    rcases hk with rfl | rfl <;> simp [operR, allR, hn.1, hn.2, heldR]
theorem logic_noteq (h : evalE a row = (p, 0)) (h' : evalE b row = (q, 0)) (hl : a.length + b.length + 2 ≤ 128) : evalE (a ++ b ++ [oP 15] ++ [oP 10]) row = (eqR 16 p q, 0) := by
  have he := logic_eq 15 (Or.inl rfl) h h' hl
  have hlen : (a ++ b ++ [oP 15]).length + 1 ≤ 128 := by simp; omega
  by_cases hn : (p.kind == 0 || q.kind == 0) = true
  · have e1 : eqR 15 p q = nullV := by unfold eqR; rw [if_pos hn]
    have e2 : eqR 16 p q = nullV := by unfold eqR; rw [if_pos hn]
    rw [e1] at he
    obtain ⟨h1, h2, h3⟩ := eval_ok he
    rw [(eval_one h1 (by omega) h2 hlen).2, h3, one_oper_one (by omega), e2]
    rfl
  · have e1 : eqR 15 p q = truthV (decide (cmpV p q = 0)) := by unfold eqR; rw [if_neg hn, if_pos rfl]
    have e2 : eqR 16 p q = truthV (decide (cmpV p q ≠ 0)) := by unfold eqR; rw [if_neg hn, if_neg (by omega)]
    rw [e1] at he
    rw [logic_not he hlen rfl, e2]
    show (truthV (!decide (cmpV p q = 0)), (0 : Int)) = _
    simp
theorem eq_kind (k : Int) : ((eqR k p q).kind == 0) = (p.kind == 0 || q.kind == 0) := by
  unfold eqR
  cases hn : (p.kind == 0 || q.kind == 0) with
  | true => rfl
  | false =>
    simp only [Bool.false_eq_true, if_false]
    split <;> rfl
end
end Go.Proofs.YtbemgcjckchdjaaGreatDoor
/- codicillaw11.truth; ExprLogic's early returns and the runs' cells. -/
namespace Go.Proofs.YtbemgcjckchdjaaGreatDoor
open Go.RowKit
set_option linter.unusedSimpArgs false
set_option linter.unusedVariables false
theorem ltruth_calls (b : Bool) (w : World) : Calls Tryz.prog 12 #[.bool b] w fun e w' => e = .returned (.agg #[.int .u8 1, .bool b, .int .i64 0, .string ⟨#[]⟩, .slice none 0 0, .slice none 0 0]) ∧ Below w.heap.size w w' := by
  have hT := heap_last w (.cells #[.int .u8 0, .bool false, .int .i64 0, .string ⟨#[]⟩, .slice none 0 0, .slice none 0 0] 27)
  have hD : Below w.heap.size w (w.alloc (.cells #[.int .u8 0, .bool false, .int .i64 0, .string ⟨#[]⟩, .slice none 0 0, .slice none 0 0] 27)) := (Below.refl _ _).alloc (Nat.le_refl _) _
  go_enter Tryz.func12, Tryz.ntmps12
  go_upto_region 1 with (fail)
  generalize w.alloc (.cells #[.int .u8 0, .bool false, .int .i64 0, .string ⟨#[]⟩, .slice none 0 0, .slice none 0 0] 27) = W at *
  obtain ⟨z0, z1, z2, z3, z4, z5, z6⟩ := cells6 hT
  go_wp2_with fail
  refine bodyPost_ret (v := .agg #[.int .u8 1, .bool b, .int .i64 0, .string ⟨#[]⟩, .slice none 0 0, .slice none 0 0]) (by simp [results, Tryz.results12, go_sem, cell_set_same, z0, z1, z2, z3, z4, z5]) rfl ?_
  exact ⟨rfl, setCells_below (Nat.le_refl _) [_, _, _, _, _, _] 0 _ hD⟩
theorem scells_app : ∀ (a b : List ST), scells (a ++ b) = scells a ++ scells b
  | [], b => rfl
  | x :: r, b => by simp [scells, scells_app r b]
theorem steps_snoc {l : List ST} {k : Int} (h : ∀ s ∈ l, StOk s) (hk : 0 ≤ k) : ∀ s ∈ l ++ [oP k], StOk s := by
  intro s hs
  rcases List.mem_append.1 hs with hs | hs
  · exact h s hs
  · simp only [List.mem_singleton] at hs; subst hs; exact ok_oP hk
theorem steps_app {a b : List ST} (ha : ∀ s ∈ a, StOk s) (hb : ∀ s ∈ b, StOk s) : ∀ s ∈ a ++ b, StOk s := by
  intro s hs
  rcases List.mem_append.1 hs with hs | hs
  · exact ha s hs
  · exact hb s hs
/-- region k of a code (as regOf, restOf in Nc) -/
def lreg (k : Nat) : Code → Option Code
  | .region id ops d => if id = k then some (.region id ops d) else none
  | .seq a b => match lreg k a with
    | some c => some c
    | none => lreg k b
  | .cond _ a b => match lreg k a with
    | some c => some c
    | none => lreg k b
  | .scope c => lreg k c
  | .block _ c => lreg k c
  | .loop c => lreg k c
  | _ => none
/-- what follows region k, a statement of its own -/
def lrest (k : Nat) : Code → Option Code
  | .seq (.region id _ _) b => if id = k then some b else lrest k b
  | .seq a b => match lrest k b with
    | some c => some c
    | none => lrest k a
  | .scope c => lrest k c
  | .block _ c => lrest k c
  | .loop c => lrest k c
  | _ => none
end Go.Proofs.YtbemgcjckchdjaaGreatDoor
/- append of a nil slice. -/
namespace Go.Proofs.YtbemgcjckchdjaaGreatDoor
open Go.RowKit
set_option linter.unusedSimpArgs false
set_option linter.unusedVariables false
theorem run_append_none (ad : Addr) (n cap c : Nat) (h : n ≤ cap) (ty : TypeId) (w : World) : (Builtin.append_ #[22, 22] ty #[.slice (some ad) n cap, .slice none 0 c]).run Tryz.prog w = .ok (.slice (some ad) n cap) w := by
  obtain ⟨i0, hi0, hz00, hz1, hz2⟩ := info_parts Tryz.infoS
  simp [Builtin.append_, Go.underlying, Go.typeInfo, Go.sizeOf, Builtin.lenOf, Builtin.firstCells, Tryz.underlying22, go_sem, hi0, hz1, hz2, h]
theorem wpList_append_none {ops : Array Oper} {rest : List Oper} {o : Oper} {a : Act} {Q : Exit → Act → World → Prop} {w : World} (hgd : o.guard = none) (s x : Operand)
    (ho : o.op = .call { callee := .builtin .append, args := #[s, x], argTypes := #[22, 22] }) (ad : Addr) (n cap c : Nat) (hs : a.eval s = .slice (some ad) n cap) (hx : a.eval x = .slice none 0 c) (hle : n ≤ cap)
    (h : wpList Tryz.prog ops Q rest (a.put o.dst (.slice (some ad) n cap)) w) : wpList Tryz.prog ops Q (o :: rest) a w :=
  wpList_plain hgd fun _ hK => by
    have hr := run_append_none ad n cap c hle o.type w
    unfold Oper.wp execOp
    simp only [ho, resolve, invoke, builtin, Sem.run_bind, Sem.run_pure, Result.andThen_ok, List.map_toArray, List.map_cons, List.map_nil, hs, hx, hr]
    exact hK _ _ h
end Go.Proofs.YtbemgcjckchdjaaGreatDoor
/- append of any row of steps onto an owned row: one law. -/
namespace Go.Proofs.YtbemgcjckchdjaaGreatDoor
open Go.RowKit
set_option linter.unusedSimpArgs false
set_option linter.unusedVariables false
theorem wpList_append_steps {ops : Array Oper} {rest : List Oper} {o : Oper} {a : Act} {Q : Exit → Act → World → Prop} {w : World} (hgd : o.guard = none) (s x : Operand)
    (ho : o.op = .call { callee := .builtin .append, args := #[s, x], argTypes := #[22, 22] }) (B : Nat) (g n cap : Nat) (xs : List Value) (hs : a.eval s = .slice (some ⟨g, 0, none⟩) n cap) (hown : w.ownsRow B 43 3 (.slice (some ⟨g, 0, none⟩) n cap) n xs) (hcap : n ≤ cap) (hB : B ≤ w.heap.size)
    (l : List ST) (A : Option Addr) (c : Nat) (hx : a.eval x = .slice A l.length c) (hr : RowS w l A) (hn : n + l.length ≤ 4194304)
    (h : ∀ g' cap' w', w'.ownsRow B 43 3 (.slice (some ⟨g', 0, none⟩) (n + l.length) cap') (n + l.length) (xs ++ scells l) → n + l.length ≤ cap' → w.grownBy w' (some g) → wpList Tryz.prog ops Q rest (a.put o.dst (.slice (some ⟨g', 0, none⟩) (n + l.length) cap')) w') : wpList Tryz.prog ops Q (o :: rest) a w := by
  obtain ⟨i0, hi0, hz00, hz1, hz2⟩ := info_parts Tryz.infoS
  have one : ∀ ad : Addr, A = some ad → (∀ j u, (scells l)[j]? = some u → w.cell? (ad.add j) = some u) → wpList Tryz.prog ops Q (o :: rest) a w := fun ad hA hc => by
    subst hA
    refine wpList_append_own w hgd s x 22 ho B 43 i0 (.agg #[.int .u8 0, .string ⟨#[]⟩, .int .i64 0]) 3 32 Tryz.underlying22 hi0 hz00 hz1 hz2 rfl (by decide) _ n xs hs hown ad l.length c (scells l) hx (scells_length l) hc (scells_one l) (by unfold maxLen; omega) (by omega) hB ?_
    intro v' w' ho' hg hi
    obtain ⟨A8, c8, e, hc8, _⟩ := owns_val ho'
    subst e
    cases A8 with
    | none =>
      exfalso
      have h0 := ho'.2
      rcases h0 with ⟨e1, e2⟩ | ⟨g8, _, _, e3, _⟩
      · exact absurd (hi.1 e1).1 (by simp)
      · cases e3
    | some ad8 =>
      rcases ho'.2 with ⟨e1, _⟩ | ⟨g8, cap8, _, e3, _⟩
      · cases e1
      · cases e3
        exact h g8 c8 w' ho' hc8 hg
  cases A with
  | none =>
    have h0 : l.length = 0 := by
      rcases hr with h0 | ⟨_, _, e, _⟩
      · exact h0
      · cases e
    have hl := List.length_eq_zero_iff.1 h0
    subst hl
    refine wpList_append_none hgd s x ho ⟨g, 0, none⟩ n cap c hs hx hcap ?_
    exact h g cap w (by simpa [scells] using hown) hcap (World.grownBy.refl w _)
  | some ad =>
    refine one ad rfl fun j u hj => ?_
    rcases hr with h0 | ⟨b, o', e, hst⟩
    · rw [List.length_eq_zero_iff.1 h0] at hj
      simp [scells] at hj
    · cases e
      exact steps_cells hst j u hj
end Go.Proofs.YtbemgcjckchdjaaGreatDoor
