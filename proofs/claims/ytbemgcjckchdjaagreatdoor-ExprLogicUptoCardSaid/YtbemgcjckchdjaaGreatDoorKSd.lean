import Derived.Test.YtbemgcjckchdjaaGreatDoorKSa
/- What an argument of []api.Step reads as. -/
namespace Go.Proofs.YtbemgcjckchdjaaGreatDoor
open Go.RowKit
set_option linter.unusedSimpArgs false
set_option linter.unusedVariables false
set_option maxRecDepth 100000
theorem cellsSt : Tryz.prog.cellsOf 43 = 3 := by kernel_rfl
theorem cellsKd : Tryz.prog.cellsOf 33 = 1 := by kernel_rfl
theorem cells3_of {w : World} {a : Addr} {cs : List Value} (h : w.cells? 0 a 3 = some cs) : a.spot = none ∧ ∃ v0 v1 v2, cs = [v0, v1, v2] ∧ w.cell? ⟨a.block, a.off, none⟩ = some v0 ∧ w.cell? ⟨a.block, a.off + 1, none⟩ = some v1 ∧ w.cell? ⟨a.block, a.off + 2, none⟩ = some v2 := by
  unfold World.cells? at h
  rw [if_pos (Nat.zero_le _)] at h
  obtain ⟨b, o, sp⟩ := a
  simp only [show List.range 3 = [0, 1, 2] from rfl, List.mapM_cons, List.mapM_nil, Option.bind_eq_bind, Option.bind_eq_some_iff, Option.pure_def, Option.some.injEq, Addr.add] at h
  obtain ⟨v0, h0, _, ⟨v1, h1, _, ⟨v2, h2, _, rfl, rfl⟩, rfl⟩, rfl⟩ := h
  simp only [if_pos, if_true, reduceIte, Nat.add_eq, Nat.reduceEqDiff, Nat.one_ne_zero] at h0 h1 h2
  have hsp : sp = none := by
    unfold World.cell? at h0
    split at h0
    · cases sp with
      | none => rfl
      | some x => simp at h0
    · cases h0
  subst hsp
  exact ⟨rfl, v0, v1, v2, rfl, h0, h1, h2⟩
section
variable {H : Type} {enc : TypeId × Value → H} {w : World} {sp : Nat → Bool} {held : Bool}
theorem step_of {fuel : Nat} {cs : List Value} {x : DataW H × List MemPlace} (h : DataW.trod enc Tryz.prog w 0 sp held fuel 43 cs = some x) (hcl : cs.length = 3) (hk : Rows.uptoBulk x.1 ≤ LIM) : ∃ s : ST, cs = [.int .u8 s.k, .string s.t, .int .i64 s.n] ∧ StOk s := by
  obtain ⟨xs, n, hm, hx, _, hxl, hfs⟩ := DataW.trod_struct Tryz.underlying43 h
  match cs, hcl with
  | [v0, v1, v2], _ =>
    have f0 := hfs 0 { name := "Kind", type := 33, offset := 0, embedded := false, tag := "", pkgPath := "", byteOffset := 0 } rfl
    have f1 := hfs 1 { name := "Text", type := 9, offset := 1, embedded := false, tag := "", pkgPath := "", byteOffset := 8 } rfl
    have f2 := hfs 2 { name := "N", type := 2, offset := 2, embedded := false, tag := "", pkgPath := "", byteOffset := 24 } rfl
    simp only [cellsKd, cellsStr, cellsI64, List.drop_zero, List.drop_succ_cons, List.take_succ_cons, List.take_zero] at f0 f1 f2
    match xs, hxl with
    | [y0, y1, y2], _ =>
      have hb : Rows.uptoBulk y0.1 + (Rows.uptoBulk y1.1 + (Rows.uptoBulk y2.1 + 0)) + 1 = Rows.uptoBulk x.1 := by rw [hx]; simp [Rows.uptoBulk, Rows.uptoBulkAll]
      obtain ⟨k, e0, _, wk⟩ := DataW.trod_int Tryz.underlying33 (f0 : _ = some y0)
      obtain ⟨s, e1, ey, _⟩ := DataW.trod_string Tryz.underlying9 (f1 : _ = some y1)
      obtain ⟨m, e2, _, wm⟩ := DataW.trod_int Tryz.underlying2 (f2 : _ = some y2)
      cases e0; cases e1; cases e2
      have hss : s.size ≤ LIM := by
        have : Rows.uptoBulk y1.1 = s.data.toList.length + 1 := by rw [ey, Rows.uptoBulk]
        have h3 : s.data.toList.length = s.size := by rw [Array.length_toList]; rfl
        omega
      simp only [Lit.wf, Bool.and_eq_true, decide_eq_true_eq] at wk wm
      have wk2 : (0 : Int) ≤ k ∧ k ≤ 255 := wk
      exact ⟨⟨k, s, m⟩, rfl, (show I64 m from wm), hss, wk2.1⟩
theorem steps_all {len b o : Nat} (h : ∀ i, i < len → ∃ s : ST, w.cell? ⟨b, o + i * 3, none⟩ = some (.int .u8 s.k) ∧ w.cell? ⟨b, o + i * 3 + 1, none⟩ = some (.string s.t) ∧ w.cell? ⟨b, o + i * 3 + 2, none⟩ = some (.int .i64 s.n) ∧ StOk s) :
    ∀ k, k ≤ len → ∃ l : List ST, l.length = k ∧ StepsAt w l b o ∧ ∀ s ∈ l, StOk s := by
  intro k
  induction k with
  | zero => intro _; exact ⟨[], rfl, fun i hi => absurd hi (Nat.not_lt_zero _), fun s hs => by cases hs⟩
  | succ k ih =>
    intro hk
    obtain ⟨l, hl, hs, hok⟩ := ih (by omega)
    obtain ⟨s, c0, c1, c2, h3⟩ := h k (by omega)
    refine ⟨l ++ [s], by simp [hl], fun i hi => ?_, fun x hx => ?_⟩
    · by_cases hik : i < l.length
      · rw [List.getElem_append_left hik]
        exact hs i hik
      · have hie : i = k := by simp at hi; omega
        subst hie
        have e : (l ++ [s])[i] = s := by
          rw [List.getElem_append_right (by omega)]
          simp [hl]
        rw [e]
        exact ⟨c0, c1, c2⟩
    · rcases List.mem_append.1 hx with hx | hx
      · exact hok x hx
      · simp only [List.mem_singleton] at hx
        subst hx; exact h3
theorem steps_of {fuel : Nat} {cs : List Value} {x : DataW H × List MemPlace} (h : DataW.trod enc Tryz.prog w 0 sp held fuel 22 cs = some x) (hk : Rows.uptoBulk x.1 ≤ LIM) :
    ∃ (l : List ST) (a : Option Addr) (c : Nat), cs = [.slice a l.length c] ∧ l.length ≤ LIM ∧ RowS w l a ∧ ∀ s ∈ l, StOk s := by
  rcases DataW.trod_slice Tryz.underlying22 h with ⟨rfl, rfl⟩ | ⟨a, len, cap, elems, rest, n, hf, rfl, rfl, _, hlc, _, hlen, hel, _, _⟩
  · exact ⟨[], none, 0, rfl, Nat.zero_le _, Or.inl rfl, fun s hs => by cases hs⟩
  · rw [cellsSt] at hel
    have hbk : Rows.uptoBulkAll (elems.map (·.1)) + 1 ≤ LIM := by
      have : Rows.uptoBulkAll (elems.map (·.1)) + Rows.uptoBulkAll (rest.map (·.1)) + 1 ≤ LIM := hk
      omega
    have hll : len ≤ LIM := by
      have := bulk_length (elems.map (·.1))
      rw [List.length_map, hlen] at this
      omega
    have hall : ∀ i, i < len → a.spot = none ∧ ∃ s : ST, w.cell? ⟨a.block, a.off + i * 3, none⟩ = some (.int .u8 s.k) ∧ w.cell? ⟨a.block, a.off + i * 3 + 1, none⟩ = some (.string s.t) ∧ w.cell? ⟨a.block, a.off + i * 3 + 2, none⟩ = some (.int .i64 s.n) ∧ StOk s := by
      intro i hi
      have he := hel i hi
      rw [List.getElem?_eq_getElem (by omega)] at he
      obtain ⟨cs', h1, h2⟩ := Option.bind_eq_some_iff.1 he
      have hmem : elems[i] ∈ elems := List.getElem_mem _
      have hbi := bulk_part (d := elems[i].1) (l := elems.map (·.1)) (List.mem_map_of_mem hmem)
      obtain ⟨e1, v0, v1, v2, rfl, c0, c1, c2⟩ := cells3_of h1
      obtain ⟨s, e, hok⟩ := step_of h2 rfl (by omega)
      simp only [List.cons.injEq, and_true] at e
      obtain ⟨rfl, rfl, rfl⟩ := e
      have hA : a.add (i * 3) = { block := a.block, off := a.off + i * 3, spot := (a.add (i * 3)).spot } := by
        unfold Addr.add
        split
        · rename_i hz
          rw [hz]
          rfl
        · rfl
      have hsp : a.spot = none := by
        have he0 := hel 0 (by omega)
        rw [List.getElem?_eq_getElem (by omega)] at he0
        obtain ⟨cs0, h10, _⟩ := Option.bind_eq_some_iff.1 he0
        have := (cells3_of h10).1
        simpa [Addr.add] using this
      rw [hA] at c0 c1 c2
      exact ⟨hsp, s, c0, c1, c2, hok⟩
    obtain ⟨l, hl, hs, hok⟩ := steps_all (fun i hi => (hall i hi).2) len (Nat.le_refl _)
    refine ⟨l, some a, cap, by rw [hl], by omega, ?_, hok⟩
    by_cases h0 : len = 0
    · exact Or.inl (by omega)
    · obtain ⟨hsp, _⟩ := hall 0 (by omega)
      refine Or.inr ⟨a.block, a.off, ?_, hs⟩
      obtain ⟨b, o, spt⟩ := a
      cases hsp
      rfl
theorem arg_steps {base : Nat} {v : Value} {d : DataW H} {ps : List MemPlace} (hv : Value.okWide Tryz.prog w .any base 22 v) (h : DataW.Trod enc Tryz.prog w 0 sp held 22 v d ps) (hk : Rows.uptoBulk d ≤ LIM) :
    ∃ (l : List ST) (a : Option Addr) (c : Nat), v = .slice a l.length c ∧ l.length ≤ LIM ∧ RowS w l a ∧ ∀ s ∈ l, StOk s := by
  unfold Value.okWide at hv
  rw [Tryz.underlying22] at hv
  obtain ⟨fuel, hf⟩ := h
  obtain ⟨l, a, c, e, h1, h2, h3⟩ := steps_of hf hk
  cases v with
  | slice a' l' c' =>
    have e' : [Value.slice a' l' c'] = [.slice a l.length c] := e
    simp only [List.cons.injEq, and_true] at e'
    exact ⟨l, a, c, e', h1, h2, h3⟩
  | _ => exact hv.elim
end
end Go.Proofs.YtbemgcjckchdjaaGreatDoor
