import Derived.Test.YtbemgcjckchdjaaGreatDoorLSa
import Derived.Test.YtbemgcjckchdjaaGreatDoorLCa
/- What an argument of []api.Instr reads as. -/
namespace Go.Proofs.YtbemgcjckchdjaaGreatDoor
open Go.RowKit
set_option linter.unusedSimpArgs false
set_option linter.unusedVariables false
set_option maxRecDepth 100000
theorem QP : Tryz.prog.cellsOf 73 = 5 := by kernel_rfl
theorem QR : Tryz.prog.cellsOf 70 = 1 := by kernel_rfl
theorem Pk : Tryz.prog.cellsOf 3 = 1 := by kernel_rfl
theorem Jp {w : World} {a : Addr} {cs : List Value} (h : w.cells? 0 a 5 = some cs) : a.spot = none ∧ ∃ v0 v1 v2 v3 v4, cs = [v0, v1, v2, v3, v4] ∧ w.cell? ⟨a.block, a.off, none⟩ = some v0 ∧ w.cell? ⟨a.block, a.off + 1, none⟩ = some v1 ∧ w.cell? ⟨a.block, a.off + 2, none⟩ = some v2 ∧ w.cell? ⟨a.block, a.off + 3, none⟩ = some v3 ∧ w.cell? ⟨a.block, a.off + 4, none⟩ = some v4 := by
 unfold World.cells? at h
 rw [if_pos (Nat.zero_le _)] at h
 obtain ⟨b, o, sp⟩ := a
 simp only [show List.range 5 = [0, 1, 2, 3, 4] from rfl, List.mapM_cons, List.mapM_nil, Option.bind_eq_bind, Option.bind_eq_some_iff, Option.pure_def, Option.some.injEq, Addr.add] at h
 obtain ⟨v0, h0, _, ⟨v1, h1, _, ⟨v2, h2, _, ⟨v3, h3, _, ⟨v4, h4, _, rfl, rfl⟩, rfl⟩, rfl⟩, rfl⟩, rfl⟩ := h
 simp only [if_pos, if_true, reduceIte, Nat.add_eq, Nat.reduceEqDiff, Nat.one_ne_zero] at h0 h1 h2 h3 h4
 have hsp : sp = none := by
  unfold World.cell? at h0
  split at h0
  · cases sp with
    | none => rfl
    | some x => simp at h0
  · cases h0
 subst hsp
 exact ⟨rfl, v0, v1, v2, v3, v4, rfl, h0, h1, h2, h3, h4⟩
section
variable {H : Type} {enc : TypeId × Value → H} {w : World} {sp : Nat → Bool} {held : Bool}
theorem P0 {fuel : Nat} {cs : List Value} {x : DataW H × List MemPlace} (h : DataW.trod enc Tryz.prog w 0 sp held fuel 73 cs = some x) (hcl : cs.length = 5) (hk : Rows.uptoBulk x.1 ≤ LIM) : ∃ s : IT, cs = [.int .u8 s.op, .int .u8 s.s.k, .string s.s.t, .int .i64 s.s.n, .int .i64 s.tgt] ∧ Be s.s := by
 obtain ⟨xs, n, hm, hx, _, hxl, hfs⟩ := DataW.trod_struct Tryz.underlying73 h
 match cs, hcl with
 | [v0, v1, v2, v3, v4], _ =>
   have f0 := hfs 0 { name := "Op", type := 70, offset := 0, embedded := false, tag := "", pkgPath := "", byteOffset := 0 } rfl
   have f1 := hfs 1 { name := "Step", type := 43, offset := 1, embedded := false, tag := "", pkgPath := "", byteOffset := 8 } rfl
   have f2 := hfs 2 { name := "To", type := 3, offset := 4, embedded := false, tag := "", pkgPath := "", byteOffset := 40 } rfl
   simp only [QR, Mf, Pk, List.drop_zero, List.drop_succ_cons, List.take_succ_cons, List.take_zero] at f0 f1 f2
   match xs, hxl with
   | [y0, y1, y2], _ =>
     have hb : Rows.uptoBulk y0.1 + (Rows.uptoBulk y1.1 + (Rows.uptoBulk y2.1 + 0)) + 1 = Rows.uptoBulk x.1 := by rw [hx]; simp [Rows.uptoBulk, Rows.uptoBulkAll]
     obtain ⟨k, e0, _, wk⟩ := DataW.trod_int Tryz.underlying70 (f0 : _ = some y0)
     obtain ⟨s, e1, hso⟩ := Mv (f1 : _ = some y1) rfl (by omega)
     obtain ⟨m, e2, _, wm⟩ := DataW.trod_int Tryz.underlying3 (f2 : _ = some y2)
     simp only [List.cons.injEq, and_true] at e1
     obtain ⟨rfl, rfl, rfl⟩ := e1
     cases e0; cases e2
     exact ⟨⟨k, s, m⟩, rfl, hso⟩
theorem ML {len b o : Nat} (h : ∀ i, i < len → ∃ s : IT, w.cell? ⟨b, o + i * 5, none⟩ = some (.int .u8 s.op) ∧ w.cell? ⟨b, o + i * 5 + 1, none⟩ = some (.int .u8 s.s.k) ∧ w.cell? ⟨b, o + i * 5 + 2, none⟩ = some (.string s.s.t) ∧ w.cell? ⟨b, o + i * 5 + 3, none⟩ = some (.int .i64 s.s.n) ∧ w.cell? ⟨b, o + i * 5 + 4, none⟩ = some (.int .i64 s.tgt) ∧ Be s.s) :
   ∀ k, k ≤ len → ∃ l : List IT, l.length = k ∧ QB w l b o ∧ ∀ s ∈ l, Be s.s := by
 intro k
 induction k with
 | zero => intro _; exact ⟨[], rfl, fun i hi => absurd hi (Nat.not_lt_zero _), fun s hs => by cases hs⟩
 | succ k ih =>
   intro hk
   obtain ⟨l, hl, hs, hok⟩ := ih (by omega)
   obtain ⟨s, c0, c1, c2, c3, c4, h3⟩ := h k (by omega)
   refine ⟨l ++ [s], by simp [hl], fun i hi => ?_, fun x hx => ?_⟩
   · by_cases hik : i < l.length
     · rw [List.getElem_append_left hik]
       exact hs i hik
     · have hie : i = k := by simp at hi; omega
       subst hie
       have e : (l ++ [s])[i] = s := by
        rw [List.getElem_append_right (by omega)]
        simp [hl]
       rw [e]
       exact ⟨c0, c1, c2, c3, c4⟩
   · rcases List.mem_append.1 hx with hx | hx
     · exact hok x hx
     · simp only [List.mem_singleton] at hx
       subst hx; exact h3
theorem NO {fuel : Nat} {cs : List Value} {x : DataW H × List MemPlace} (h : DataW.trod enc Tryz.prog w 0 sp held fuel 37 cs = some x) (hk : Rows.uptoBulk x.1 ≤ LIM) :
   ∃ (l : List IT) (a : Option Addr) (c : Nat), cs = [.slice a l.length c] ∧ l.length ≤ LIM ∧ RowI w l a ∧ ∀ s ∈ l, Be s.s := by
 rcases DataW.trod_slice Tryz.underlying37 h with ⟨rfl, rfl⟩ | ⟨a, len, cap, elems, rest, n, hf, rfl, rfl, _, hlc, _, hlen, hel, _, _⟩
 · exact ⟨[], none, 0, rfl, Nat.zero_le _, Or.inl rfl, fun s hs => by cases hs⟩
 · rw [QP] at hel
   have hbk : Rows.uptoBulkAll (elems.map (·.1)) + 1 ≤ LIM := by
     have : Rows.uptoBulkAll (elems.map (·.1)) + Rows.uptoBulkAll (rest.map (·.1)) + 1 ≤ LIM := hk
     omega
   have hll : len ≤ LIM := by
     have := D7 (elems.map (·.1))
     rw [List.length_map, hlen] at this
     omega
   have hall : ∀ i, i < len → a.spot = none ∧ ∃ s : IT, w.cell? ⟨a.block, a.off + i * 5, none⟩ = some (.int .u8 s.op) ∧ w.cell? ⟨a.block, a.off + i * 5 + 1, none⟩ = some (.int .u8 s.s.k) ∧ w.cell? ⟨a.block, a.off + i * 5 + 2, none⟩ = some (.string s.s.t) ∧ w.cell? ⟨a.block, a.off + i * 5 + 3, none⟩ = some (.int .i64 s.s.n) ∧ w.cell? ⟨a.block, a.off + i * 5 + 4, none⟩ = some (.int .i64 s.tgt) ∧ Be s.s := by
     intro i hi
     have he := hel i hi
     rw [List.getElem?_eq_getElem (by omega)] at he
     obtain ⟨cs', h1, h2⟩ := Option.bind_eq_some_iff.1 he
     have hmem : elems[i] ∈ elems := List.getElem_mem _
     have hbi := EA (d := elems[i].1) (l := elems.map (·.1)) (List.mem_map_of_mem hmem)
     obtain ⟨e1, v0, v1, v2, v3, v4, rfl, c0, c1, c2, c3, c4⟩ := Jp h1
     obtain ⟨s, e, hok⟩ := P0 h2 rfl (by omega)
     simp only [List.cons.injEq, and_true] at e
     obtain ⟨rfl, rfl, rfl, rfl, rfl⟩ := e
     have hA : a.add (i * 5) = { block := a.block, off := a.off + i * 5, spot := (a.add (i * 5)).spot } := by
      unfold Addr.add
      split
      · rename_i hz
        rw [hz]
        rfl
      · rfl
     have hsp : a.spot = none := by
      have he0 := hel 0 (by omega)
      rw [List.getElem?_eq_getElem (by omega)] at he0
      obtain ⟨cs0, h10, _⟩ := Option.bind_eq_some_iff.1 he0
      have := (Jp h10).1
      simpa [Addr.add] using this
     rw [hA] at c0 c1 c2 c3 c4
     exact ⟨hsp, s, c0, c1, c2, c3, c4, hok⟩
   obtain ⟨l, hl, hs, hok⟩ := ML (fun i hi => (hall i hi).2) len (Nat.le_refl _)
   refine ⟨l, some a, cap, by rw [hl], by omega, ?_, hok⟩
   by_cases h0 : len = 0
   · exact Or.inl (by omega)
   · obtain ⟨hsp, _⟩ := hall 0 (by omega)
     refine Or.inr ⟨a.block, a.off, ?_, hs⟩
     obtain ⟨b, o, spt⟩ := a
     cases hsp
     rfl
theorem M1 {base : Nat} {v : Value} {d : DataW H} {ps : List MemPlace} (hv : Value.okWide Tryz.prog w .any base 37 v) (h : DataW.Trod enc Tryz.prog w 0 sp held 37 v d ps) (hk : Rows.uptoBulk d ≤ LIM) :
   ∃ (l : List IT) (a : Option Addr) (c : Nat), v = .slice a l.length c ∧ l.length ≤ LIM ∧ RowI w l a ∧ ∀ s ∈ l, Be s.s := by
 unfold Value.okWide at hv
 rw [Tryz.underlying37] at hv
 obtain ⟨fuel, hf⟩ := h
 obtain ⟨l, a, c, e, h1, h2, h3⟩ := NO hf hk
 cases v with
 | slice a' l' c' =>
   have e' : [Value.slice a' l' c'] = [.slice a l.length c] := e
   simp only [List.cons.injEq, and_true] at e'
   exact ⟨l, a, c, e', h1, h2, h3⟩
 | _ => exact hv.elim
end
end Go.Proofs.YtbemgcjckchdjaaGreatDoor
