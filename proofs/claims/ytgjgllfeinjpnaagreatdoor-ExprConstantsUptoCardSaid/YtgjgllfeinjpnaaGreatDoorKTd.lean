import Derived.Test.YtgjgllfeinjpnaaGreatDoorKTc
/- expr.Literal by one contract; what a literal, a closed expression come to. -/
namespace Go.Proofs.YtgjgllfeinjpnaaGreatDoor
open Go.RowKit
set_option linter.unusedSimpArgs false
set_option linter.unusedVariables false
theorem first_parts {s : ST} {v : VT} (h : firstO s = some v) : ∃ k b n t, v = .mk k b n t .nil .nil ∧ s.k ≠ 6 ∧ s.k ≠ 7 ∧ s.k ≠ 8 ∧ (s.k = 4 → k = 2 ∧ n = s.n) := by
  unfold firstO at h
  by_cases h6 : s.k = 6 ∨ s.k = 7 ∨ s.k = 8
  · rw [if_pos h6] at h; cases h
  · rw [if_neg h6] at h
    have h := (Option.some.inj h).symm
    subst h
    by_cases h2 : s.k = 2 ∨ s.k = 3
    · rw [if_pos h2]; exact ⟨_, _, _, _, rfl, by omega, by omega, by omega, by omega⟩
    · rw [if_neg h2]
      by_cases h4 : s.k = 4
      · rw [if_pos h4]; exact ⟨_, _, _, _, rfl, by omega, by omega, by omega, fun _ => ⟨rfl, rfl⟩⟩
      · rw [if_neg h4]
        by_cases h5 : s.k = 5
        · rw [if_pos h5]; exact ⟨_, _, _, _, rfl, by omega, by omega, by omega, by omega⟩
        · rw [if_neg h5]; exact ⟨_, _, _, _, rfl, by omega, by omega, by omega, by omega⟩
theorem first_ok {s : ST} {r : List ST} (h : rightB (s :: r) = true) : s.ok = true ∧ s.takes = 0 := by
  obtain ⟨h1, _⟩ := right_parts h
  have h2 := rightAt_take (s :: r) 0 (by simp)
  have h3 := rightAt_dead (s :: r) 1
  have h0 : rightAt ((s :: r).take 0) = some 0 := rfl
  rw [h0] at h2
  have e : rightStep (some 0) ((s :: r)[0]) = if s.ok && decide (s.takes ≤ 0) then some (0 - (s.takes - 1)) else none := rfl
  rw [e] at h2
  by_cases hc : (s.ok && decide (s.takes ≤ 0)) = true
  · simp only [Bool.and_eq_true, decide_eq_true_eq] at hc
    exact ⟨hc.1, by have := takes_range s hc.1; omega⟩
  · rw [if_neg hc] at h2
    rw [h3 h2] at h1
    cases h1
set_option maxRecDepth 100000 in
theorem lit_calls (l : List ST) (a : Option Addr) (c : Nat) (w : World) (hc : l.length ≤ c) (hlen : l.length ≤ LIM) (hst : ∀ s ∈ l, StOk s) (hL : Laid w) (hrow : RowS w l a) :
    Calls Tryz.prog 18 #[.slice a l.length c] w (LitPost w (litO l)) := by
  have hR := fun (w' : World) (hb : Below w.heap.size w w') => right_calls l a c w' (hL.below hb) hlen (fun s hs => (hst s hs).2.1) (hrow.keep hb)
  unfold litO
  cases hb : rightB l with
  | false =>
    rw [hb] at hR
    exact lit_wrong l.length a c w hR
  | true =>
    rw [hb] at hR
    rw [if_pos rfl]
    cases l with
    | nil => simp [rightB, rightAt] at hb
    | cons s r =>
      obtain ⟨hok, htk⟩ := first_ok hb
      rcases hrow with h0 | ⟨b, o, rfl, hcs⟩
      · simp at h0
      have hso := hst s List.mem_cons_self
      have hc0 := hcs 0 (by simp)
      simp only [Nat.zero_mul, Nat.add_zero, List.getElem_cons_zero] at hc0
      have hT := fun (w' : World) (hb : Below w.heap.size w w') => treeC_calls s b o c w' hso hok htk (hL.below hb) ⟨keepC hb hc0.1, keepC hb hc0.2.1, keepC hb hc0.2.2⟩
      have hl1 : 1 ≤ (s :: r).length := by simp
      simp only
      cases hf : firstO s with
      | none =>
        rw [hf] at hT
        exact lit_no _ b o c w hR hT hc hl1 hlen
      | some v =>
        rw [hf] at hT
        obtain ⟨k, bb, n, t, rfl, h6, h7, h8, h4⟩ := first_parts hf
        have hk7 : decide (7 ≤ s.k) = false := by
          simp only [decide_eq_false_iff_not]
          unfold ST.takes stepN at htk
          intro hh
          rw [if_neg (by omega), if_neg (by omega)] at htk
          split at htk <;> omega
        have hk' : (VT.mk k bb n t .nil .nil).kind = k := rfl
        simp only [hk']
        generalize hLN : (s :: r).length = LN at *
        have hLN' : LN = r.length + 1 := by rw [← hLN]; rfl
        by_cases hk : k = 0
        · rw [if_pos hk]
          exact lit_null _ b o c w k bb n t (by simpa using hk) hR hT hc hl1 hlen
        rw [if_neg hk]
        have hkb : (k == 0) = false := by simpa using hk
        by_cases hr0 : r.length = 0
        · rw [if_pos hr0]
          exact lit_one _ b o c w k bb n t hkb s.k hk7 hc0.1 (by omega) hR hT hc hl1 hlen
        rw [if_neg hr0]
        by_cases hr1 : r.length = 1
        · obtain ⟨p, hrp⟩ : ∃ p, r = [p] := by
            match r, hr1 with
            | [p], _ => exact ⟨p, rfl⟩
          subst hrp
          have hc1 := hcs 1 (by simp)
          simp only [Nat.one_mul, List.getElem_cons_succ, List.getElem_cons_zero] at hc1
          by_cases hk4 : s.k = 4
          · by_cases hp : p.k = 9
            · rw [if_pos ⟨hr1, hk4, hp⟩]
              obtain ⟨rfl, rfl⟩ := h4 hk4
              have hn0 : 0 ≤ s.n := by
                unfold ST.ok stepOk at hok
                simp [hk4] at hok
                exact hok.1
              have hw : IntKind.i64.wrap (-s.n) = -s.n := by
                have := hso.1
                unfold I64 at this
                exact IntWalk.i64_in _ (by omega)
              exact lit_neg _ b o c w 2 bb s.n t hkb s.k hk7 hc0.1 p.k hc1.1 (by simpa using hk4) (by omega) (by simpa using hp) hw hR hT hc hl1 hlen
            · rw [if_neg (fun h => hp h.2.2)]
              exact lit_not _ b o c w k bb n t hkb s.k hk7 hc0.1 p.k hc1.1 (by simpa using hk4) (by omega) (by simpa using hp) hR hT hc hl1 hlen
          · rw [if_neg (fun h => hk4 h.2.1)]
            exact lit_two _ b o c w k bb n t hkb s.k hk7 hc0.1 (by omega) (by simpa using hk4) hR hT hc hl1 hlen
        · rw [if_neg (fun h => hr1 h.1)]
          exact lit_long _ b o c w k bb n t hkb s.k hk7 hc0.1 (by omega) hR hT hc hl1 hlen
theorem lit_eval {l : List ST} {v row : VT} (hst : ∀ s ∈ l, StOk s) (h : litO l = some v) (hr : checkV row 0 = 0) : evalE l row = (v, 0) ∧ v.kind ≠ 0 := by
  unfold litO at h
  cases hb : rightB l with
  | false => rw [hb] at h; cases h
  | true =>
    rw [hb, if_pos rfl] at h
    unfold evalE
    rw [hb, if_pos rfl, if_pos hr]
    match l, hb, h, hst with
    | s :: r, hb, h, hst =>
      obtain ⟨hok, htk⟩ := first_ok hb
      simp only at h
      have hso := hst s List.mem_cons_self
      cases hf : firstO s with
      | none => rw [hf] at h; cases h
      | some u =>
        rw [hf] at h
        simp only at h
        obtain ⟨k, bb, n, t, rfl, h6, h7, h8, h4⟩ := first_parts hf
        have hsk : s.k < 9 := by
          unfold ST.takes stepN at htk
          by_cases hlt : s.k < 9
          · exact hlt
          · rw [if_neg (by omega), if_neg (by omega)] at htk
            split at htk <;> omega
        have hone : oneR s row [] = (.mk k bb n t .nil .nil, 0) := by
          unfold firstO at hf
          rw [if_neg (by omega)] at hf
          have hf := Option.some.inj hf
          unfold oneR
          rw [if_neg h7, if_neg h8, if_neg (by omega), if_pos (show ([] : List Rz).isEmpty = true from rfl), ← hf]
          unfold leafR
          split
          · rfl
          · split
            · rfl
            · split
              · rfl
              · rfl
        have hst1 : stepE row [] s = [(.mk k bb n t .nil .nil, 0)] := by
          unfold stepE
          simp [hone]
        by_cases hk : (VT.mk k bb n t .nil .nil).kind = 0
        · rw [if_pos hk] at h; cases h
        rw [if_neg hk] at h
        by_cases hr0 : r.length = 0
        · rw [if_pos hr0] at h
          obtain rfl := List.length_eq_zero_iff.1 hr0
          have h := (Option.some.inj h).symm
          subst h
          refine ⟨?_, hk⟩
          unfold treeE stackE
          rw [List.foldl_cons, List.foldl_nil, hst1]
          rfl
        · rw [if_neg hr0] at h
          by_cases h3 : r.length = 1 ∧ s.k = 4 ∧ (r.getD 0 s).k = 9
          · rw [if_pos h3] at h
            obtain ⟨hr1, hk4, hp⟩ := h3
            obtain ⟨p, rfl⟩ : ∃ p, r = [p] := by
              match r, hr1 with
              | [p], _ => exact ⟨p, rfl⟩
            have hp : p.k = 9 := hp
            have h := (Option.some.inj h).symm
            subst h
            obtain ⟨rfl, rfl⟩ := h4 hk4
            have hn0 : 0 ≤ s.n := by
              unfold ST.ok stepOk at hok
              simp [hk4] at hok
              exact hok.1
            have hfit : fitsB (0 - s.n) = true := by
              have := hso.1
              unfold I64 at this
              unfold fitsB
              simp
              omega
            refine ⟨?_, by show (2 : Int) ≠ 0; omega⟩
            have htp : p.takes = 1 := by unfold ST.takes stepN; rw [hp]; rfl
            unfold treeE stackE
            rw [List.foldl_cons, List.foldl_cons, List.foldl_nil, hst1]
            unfold stepE
            rw [htp]
            have ho : oneR p row [(.mk 2 bb s.n t .nil .nil, 0)] = (intV (-s.n), 0) := by
              unfold oneR
              rw [if_neg (by omega), if_neg (by omega), if_neg (by omega), if_neg (by simp), hp]
              have e1 : operR 9 [(.mk 2 bb s.n t .nil .nil, 0)] = countedR 13 (intV 0) (.mk 2 bb s.n t .nil .nil) := by
                unfold operR
                simp [allR, VT.kind]
              have e2 : numZ 13 0 s.n = some (0 - s.n) := by
                unfold numZ
                rw [if_neg (by omega), if_pos rfl, if_pos hfit]
              have e3 : countedR 13 (intV 0) (.mk 2 bb s.n t .nil .nil) = (match numZ 13 0 s.n with | some n => (intV n, 0) | none => (nullV, 15)) := rfl
              rw [e1, e3, e2]
              simp
            show ([(oneR p row [(.mk 2 bb s.n t .nil .nil, 0)])] : List Rz).getD 0 _ = _
            rw [ho]
            rfl
          · rw [if_neg h3] at h; cases h
theorem closed_eval {l : List ST} {r1 r2 : VT} (h : closedB l = true) (h1 : checkV r1 0 = 0) (h2 : checkV r2 0 = 0) : evalE l r1 = evalE l r2 := by
  have hp : ∀ s ∈ l, s.k ≠ 6 := fun s hs he => by
    unfold closedB at h
    have : l.any ST.path = true := List.any_eq_true.2 ⟨s, hs, by unfold ST.path; simpa using he⟩
    rw [this] at h
    cases h
  have hone : ∀ (s : ST) (stk : List Rz), s.k ≠ 6 → oneR s r1 stk = oneR s r2 stk := fun s stk hs => by
    unfold oneR leafR
    simp only [if_neg hs]
  have hfold : ∀ (m : List ST) (stk : List Rz), (∀ s ∈ m, s.k ≠ 6) → stackE r1 m stk = stackE r2 m stk := by
    intro m
    induction m with
    | nil => intro stk _; rfl
    | cons s m ih =>
      intro stk hm
      unfold stackE at ih ⊢
      rw [List.foldl_cons, List.foldl_cons]
      have e : stepE r1 stk s = stepE r2 stk s := by
        unfold stepE
        rw [hone s _ (hm s List.mem_cons_self)]
      rw [e]
      exact ih _ (fun x hx => hm x (List.mem_cons_of_mem _ hx))
  unfold evalE
  rw [if_pos h1, if_pos h2]
  unfold treeE
  rw [hfold l [] hp]
end Go.Proofs.YtgjgllfeinjpnaaGreatDoor
