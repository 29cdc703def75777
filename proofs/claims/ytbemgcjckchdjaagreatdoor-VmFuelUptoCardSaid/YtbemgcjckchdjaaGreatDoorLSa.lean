import Derived.Test.YtbemgcjckchdjaaGreatDoorLEk
import Derived.Test.YtbemgcjckchdjaaGreatDoorRows
import Derived.ChangeArms
import Derived.Deep.Slices
import Derived.Lib.LaidU8T
import Derived.Lib.LaidTab
import Derived.Stop.LaidErr
import Derived.Deep.DeepWitnessRowRef
import Derived.Lib.LaidIn
import Derived.ProofKit
/- What an argument of api.Value reads as, as a tree: what a row's reading gives. -/
namespace Go.Proofs.YtbemgcjckchdjaaGreatDoor
open Go.RowKit
set_option linter.unusedSimpArgs false
set_option linter.unusedVariables false
set_option maxRecDepth 100000
theorem K0 : Tryz.prog.cellsOf 27 = 6 := by kernel_rfl
theorem Sg : Tryz.prog.cellsOf 53 = 7 := by kernel_rfl
theorem QU : Tryz.prog.cellsOf 23 = 1 := by kernel_rfl
theorem N9 : Tryz.prog.cellsOf 4 = 1 := by kernel_rfl
theorem Kz : Tryz.prog.cellsOf 2 = 1 := by kernel_rfl
theorem Hm : Tryz.prog.cellsOf 9 = 1 := by kernel_rfl
theorem QT : Tryz.prog.cellsOf 24 = 1 := by kernel_rfl
theorem QS : Tryz.prog.cellsOf 25 = 1 := by kernel_rfl
theorem EA {H : Type} {d : DataW H} {l : List (DataW H)} (h : d ∈ l) : Rows.uptoBulk d ≤ Rows.uptoBulkAll l := by
 induction l with
 | nil => cases h
 | cons x r ih =>
   simp only [Rows.uptoBulkAll]
   cases List.mem_cons.1 h with
   | inl e => subst e; omega
   | inr e => have := ih e; omega
theorem Pj {H : Type} (d : DataW H) : 1 ≤ Rows.uptoBulk d := by
 cases d with
 | lit l => cases l <;> simp [Rows.uptoBulk]
 | nil => simp [Rows.uptoBulk]
 | ptr d => simp [Rows.uptoBulk]
 | slice elems spare => simp [Rows.uptoBulk]
 | agg parts => simp [Rows.uptoBulk]
 | iface t d => simp [Rows.uptoBulk]
 | map entries => simp [Rows.uptoBulk]
 | held h => simp [Rows.uptoBulk]
theorem D7 {H : Type} (l : List (DataW H)) : l.length ≤ Rows.uptoBulkAll l := by
 induction l with
 | nil => simp [Rows.uptoBulkAll]
 | cons x r ih => have := Pj x; simp only [Rows.uptoBulkAll, List.length_cons]; omega
theorem Iu {w : World} {b o : Nat} {v : Value} (h : w.cell? ⟨b, o, none⟩ = some v) : b < w.heap.size := by
 unfold World.cell? at h
 split at h
 · rename_i c e fr hb
   exact lt_of_block hb
 · cases h
theorem Jq {w : World} {a : Addr} {cs : List Value} (h : w.cells? 0 a 6 = some cs) : a.spot = none ∧ a.block < w.heap.size ∧ ∃ v0 v1 v2 v3 v4 v5, cs = [v0, v1, v2, v3, v4, v5] ∧ w.cell? ⟨a.block, a.off, none⟩ = some v0 ∧ w.cell? ⟨a.block, a.off + 1, none⟩ = some v1 ∧ w.cell? ⟨a.block, a.off + 2, none⟩ = some v2 ∧ w.cell? ⟨a.block, a.off + 3, none⟩ = some v3 ∧ w.cell? ⟨a.block, a.off + 4, none⟩ = some v4 ∧ w.cell? ⟨a.block, a.off + 5, none⟩ = some v5 := by
 unfold World.cells? at h
 rw [if_pos (Nat.zero_le _)] at h
 obtain ⟨b, o, sp⟩ := a
 simp only [show List.range 6 = [0, 1, 2, 3, 4, 5] from rfl, List.mapM_cons, List.mapM_nil, Option.bind_eq_bind, Option.bind_eq_some_iff, Option.pure_def, Option.some.injEq, Addr.add] at h
 obtain ⟨v0, h0, _, ⟨v1, h1, _, ⟨v2, h2, _, ⟨v3, h3, _, ⟨v4, h4, _, ⟨v5, h5, _, rfl, rfl⟩, rfl⟩, rfl⟩, rfl⟩, rfl⟩, rfl⟩ := h
 simp only [if_pos, if_true, reduceIte, Nat.add_eq, Nat.reduceEqDiff, Nat.one_ne_zero] at h0 h1 h2 h3 h4 h5
 have hsp : sp = none := by
  unfold World.cell? at h0
  split at h0
  · cases sp with
    | none => rfl
    | some x => simp at h0
  · cases h0
 subst hsp
 exact ⟨rfl, Iu h0, v0, v1, v2, v3, v4, v5, rfl, h0, h1, h2, h3, h4, h5⟩
theorem Jr {w : World} {a : Addr} {cs : List Value} (h : w.cells? 0 a 7 = some cs) : a.spot = none ∧ a.block < w.heap.size ∧ ∃ v0 v1 v2 v3 v4 v5 v6, cs = [v0, v1, v2, v3, v4, v5, v6] ∧ w.cell? ⟨a.block, a.off, none⟩ = some v0 ∧ w.cell? ⟨a.block, a.off + 1, none⟩ = some v1 ∧ w.cell? ⟨a.block, a.off + 2, none⟩ = some v2 ∧ w.cell? ⟨a.block, a.off + 3, none⟩ = some v3 ∧ w.cell? ⟨a.block, a.off + 4, none⟩ = some v4 ∧ w.cell? ⟨a.block, a.off + 5, none⟩ = some v5 ∧ w.cell? ⟨a.block, a.off + 6, none⟩ = some v6 := by
 unfold World.cells? at h
 rw [if_pos (Nat.zero_le _)] at h
 obtain ⟨b, o, sp⟩ := a
 simp only [show List.range 7 = [0, 1, 2, 3, 4, 5, 6] from rfl, List.mapM_cons, List.mapM_nil, Option.bind_eq_bind, Option.bind_eq_some_iff, Option.pure_def, Option.some.injEq, Addr.add] at h
 obtain ⟨v0, h0, _, ⟨v1, h1, _, ⟨v2, h2, _, ⟨v3, h3, _, ⟨v4, h4, _, ⟨v5, h5, _, ⟨v6, h6, _, rfl, rfl⟩, rfl⟩, rfl⟩, rfl⟩, rfl⟩, rfl⟩, rfl⟩ := h
 simp only [if_pos, if_true, reduceIte, Nat.add_eq, Nat.reduceEqDiff, Nat.one_ne_zero] at h0 h1 h2 h3 h4 h5 h6
 have hsp : sp = none := by
  unfold World.cell? at h0
  split at h0
  · cases sp with
    | none => rfl
    | some x => simp at h0
  · cases h0
 subst hsp
 exact ⟨rfl, Iu h0, v0, v1, v2, v3, v4, v5, v6, rfl, h0, h1, h2, h3, h4, h5, h6⟩
section
variable {H : Type} {enc : TypeId × Value → H} {w : World} {sp : Nat → Bool} {held : Bool}
theorem S4 {a : Addr} {len : Nat} (h : ∀ i, i < len → ∃ t v0 v1 v2 v3 v4 v5, w.cell? ⟨a.block, a.off + i * 6, none⟩ = some v0 ∧ w.cell? ⟨a.block, a.off + i * 6 + 1, none⟩ = some v1 ∧ w.cell? ⟨a.block, a.off + i * 6 + 2, none⟩ = some v2 ∧ w.cell? ⟨a.block, a.off + i * 6 + 3, none⟩ = some v3 ∧ w.cell? ⟨a.block, a.off + i * 6 + 4, none⟩ = some v4 ∧ w.cell? ⟨a.block, a.off + i * 6 + 5, none⟩ = some v5 ∧ RV w 0 w.heap.size t [v0, v1, v2, v3, v4, v5]) :
   ∀ k, k ≤ len → ∃ l : VL, l.len = k ∧ RL w 0 w.heap.size l a.block (a.off + (len - k) * 6) := by
 intro k
 induction k with
 | zero => intro _; exact ⟨.nil, rfl, trivial⟩
 | succ k ih =>
   intro hk
   obtain ⟨l, hl, hr⟩ := ih (by omega)
   obtain ⟨t, v0, v1, v2, v3, v4, v5, h0, h1, h2, h3, h4, h5, hv⟩ := h (len - (k + 1)) (by omega)
   refine ⟨.cons t l, by simp [VL.len, hl], ⟨v0, v1, v2, v3, v4, v5, h0, h1, h2, h3, h4, h5, hv⟩, ?_⟩
   rw [show a.off + (len - (k + 1)) * 6 + 6 = a.off + (len - k) * 6 by omega]
   exact hr
theorem R8 {a : Addr} {len : Nat} (h : ∀ i, i < len → ∃ s t v0 v1 v2 v3 v4 v5, w.cell? ⟨a.block, a.off + i * 7, none⟩ = some (.string s) ∧ s.size ≤ LIM ∧ w.cell? ⟨a.block, a.off + i * 7 + 1, none⟩ = some v0 ∧ w.cell? ⟨a.block, a.off + i * 7 + 2, none⟩ = some v1 ∧ w.cell? ⟨a.block, a.off + i * 7 + 3, none⟩ = some v2 ∧ w.cell? ⟨a.block, a.off + i * 7 + 4, none⟩ = some v3 ∧ w.cell? ⟨a.block, a.off + i * 7 + 5, none⟩ = some v4 ∧ w.cell? ⟨a.block, a.off + i * 7 + 6, none⟩ = some v5 ∧ RV w 0 w.heap.size t [v0, v1, v2, v3, v4, v5]) :
   ∀ k, k ≤ len → ∃ l : FL, l.len = k ∧ RF w 0 w.heap.size l a.block (a.off + (len - k) * 7) := by
 intro k
 induction k with
 | zero => intro _; exact ⟨.nil, rfl, trivial⟩
 | succ k ih =>
   intro hk
   obtain ⟨l, hl, hr⟩ := ih (by omega)
   obtain ⟨s, t, v0, v1, v2, v3, v4, v5, h0, hs, h1, h2, h3, h4, h5, h6, hv⟩ := h (len - (k + 1)) (by omega)
   refine ⟨.cons s t l, by simp [FL.len, hl], ⟨h0, hs, v0, v1, v2, v3, v4, v5, h1, h2, h3, h4, h5, h6, hv⟩, ?_⟩
   rw [show a.off + (len - (k + 1)) * 7 + 7 = a.off + (len - k) * 7 by omega]
   exact hr
theorem OA {fuel : Nat} (ih : ∀ m, m < fuel → ∀ (cs : List Value) (x : DataW H × List MemPlace), DataW.trod enc Tryz.prog w 0 sp held m 27 cs = some x → Rows.uptoBulk x.1 ≤ LIM → ∃ t, RV w 0 w.heap.size t cs)
   {cs : List Value} {x : DataW H × List MemPlace} (h : DataW.trod enc Tryz.prog w 0 sp held fuel 24 cs = some x) (hk : Rows.uptoBulk x.1 ≤ LIM) :
   ∃ (l : VL) (a : Option Addr) (c : Nat), cs = [.slice a l.len c] ∧ l.len ≤ LIM ∧ l.len ≤ c ∧ (l.len = 0 ∨ ∃ b o, a = some ⟨b, o, none⟩ ∧ 0 ≤ b ∧ b < w.heap.size ∧ RL w 0 w.heap.size l b o) := by
 rcases DataW.trod_slice Tryz.underlying24 h with ⟨rfl, rfl⟩ | ⟨a, len, cap, elems, rest, n, hf, rfl, rfl, _, hlc, _, hlen, hel, _, _⟩
 · exact ⟨.nil, none, 0, rfl, Nat.zero_le _, Nat.zero_le _, Or.inl rfl⟩
 · rw [K0] at hel
   have hbk : Rows.uptoBulkAll (elems.map (·.1)) + 1 ≤ LIM := by
     have : Rows.uptoBulkAll (elems.map (·.1)) + Rows.uptoBulkAll (rest.map (·.1)) + 1 ≤ LIM := hk
     omega
   have hll : len ≤ LIM := by
     have := D7 (elems.map (·.1))
     rw [List.length_map, hlen] at this
     omega
   have hall : ∀ i, i < len → a.spot = none ∧ a.block < w.heap.size ∧ ∃ t v0 v1 v2 v3 v4 v5, w.cell? ⟨a.block, a.off + i * 6, none⟩ = some v0 ∧ w.cell? ⟨a.block, a.off + i * 6 + 1, none⟩ = some v1 ∧ w.cell? ⟨a.block, a.off + i * 6 + 2, none⟩ = some v2 ∧ w.cell? ⟨a.block, a.off + i * 6 + 3, none⟩ = some v3 ∧ w.cell? ⟨a.block, a.off + i * 6 + 4, none⟩ = some v4 ∧ w.cell? ⟨a.block, a.off + i * 6 + 5, none⟩ = some v5 ∧ RV w 0 w.heap.size t [v0, v1, v2, v3, v4, v5] := by
     intro i hi
     have he := hel i hi
     rw [List.getElem?_eq_getElem (by omega)] at he
     obtain ⟨cs', h1, h2⟩ := Option.bind_eq_some_iff.1 he
     have hmem : elems[i] ∈ elems := List.getElem_mem _
     have hbi := EA (d := elems[i].1) (l := elems.map (·.1)) (List.mem_map_of_mem hmem)
     obtain ⟨t, ht⟩ := ih n (by omega) cs' _ h2 (by omega)
     obtain ⟨e1, e2, v0, v1, v2, v3, v4, v5, rfl, c0, c1, c2, c3, c4, c5⟩ := Jq h1
     have hA : a.add (i * 6) = { block := a.block, off := a.off + i * 6, spot := (a.add (i * 6)).spot } := by
      unfold Addr.add
      split
      · rename_i hz
        rw [hz]
        rfl
      · rfl
     have hsp : a.spot = none := by
      have he0 := hel 0 (by omega)
      rw [List.getElem?_eq_getElem (by omega)] at he0
      obtain ⟨cs0, h10, _⟩ := Option.bind_eq_some_iff.1 he0
      have := (Jq h10).1
      simpa [Addr.add] using this
     rw [hA] at e2 c0 c1 c2 c3 c4 c5
     exact ⟨hsp, e2, t, v0, v1, v2, v3, v4, v5, c0, c1, c2, c3, c4, c5, ht⟩
   obtain ⟨l, hl, hr⟩ := S4 (fun i hi => (hall i hi).2.2) len (Nat.le_refl _)
   refine ⟨l, some a, cap, by rw [hl], by omega, by omega, ?_⟩
   by_cases h0 : len = 0
   · exact Or.inl (by omega)
   · obtain ⟨hs, hb, _⟩ := hall 0 (by omega)
     rw [Nat.sub_self, Nat.zero_mul, Nat.add_zero] at hr
     refine Or.inr ⟨a.block, a.off, ?_, Nat.zero_le _, hb, hr⟩
     obtain ⟨b, o, spt⟩ := a
     cases hs
     rfl
theorem O9 {fuel : Nat} (ih : ∀ m, m < fuel → ∀ (cs : List Value) (x : DataW H × List MemPlace), DataW.trod enc Tryz.prog w 0 sp held m 27 cs = some x → Rows.uptoBulk x.1 ≤ LIM → ∃ t, RV w 0 w.heap.size t cs)
   {cs : List Value} {x : DataW H × List MemPlace} (h : DataW.trod enc Tryz.prog w 0 sp held fuel 25 cs = some x) (hk : Rows.uptoBulk x.1 ≤ LIM) :
   ∃ (l : FL) (a : Option Addr) (c : Nat), cs = [.slice a l.len c] ∧ l.len ≤ LIM ∧ l.len ≤ c ∧ (l.len = 0 ∨ ∃ b o, a = some ⟨b, o, none⟩ ∧ 0 ≤ b ∧ b < w.heap.size ∧ RF w 0 w.heap.size l b o) := by
 rcases DataW.trod_slice Tryz.underlying25 h with ⟨rfl, rfl⟩ | ⟨a, len, cap, elems, rest, n, hf, rfl, rfl, _, hlc, _, hlen, hel, _, _⟩
 · exact ⟨.nil, none, 0, rfl, Nat.zero_le _, Nat.zero_le _, Or.inl rfl⟩
 · rw [Sg] at hel
   have hbk : Rows.uptoBulkAll (elems.map (·.1)) + 1 ≤ LIM := by
     have : Rows.uptoBulkAll (elems.map (·.1)) + Rows.uptoBulkAll (rest.map (·.1)) + 1 ≤ LIM := hk
     omega
   have hll : len ≤ LIM := by
     have := D7 (elems.map (·.1))
     rw [List.length_map, hlen] at this
     omega
   have hall : ∀ i, i < len → a.spot = none ∧ a.block < w.heap.size ∧ ∃ s t v0 v1 v2 v3 v4 v5, w.cell? ⟨a.block, a.off + i * 7, none⟩ = some (.string s) ∧ s.size ≤ LIM ∧ w.cell? ⟨a.block, a.off + i * 7 + 1, none⟩ = some v0 ∧ w.cell? ⟨a.block, a.off + i * 7 + 2, none⟩ = some v1 ∧ w.cell? ⟨a.block, a.off + i * 7 + 3, none⟩ = some v2 ∧ w.cell? ⟨a.block, a.off + i * 7 + 4, none⟩ = some v3 ∧ w.cell? ⟨a.block, a.off + i * 7 + 5, none⟩ = some v4 ∧ w.cell? ⟨a.block, a.off + i * 7 + 6, none⟩ = some v5 ∧ RV w 0 w.heap.size t [v0, v1, v2, v3, v4, v5] := by
     intro i hi
     have he := hel i hi
     rw [List.getElem?_eq_getElem (by omega)] at he
     obtain ⟨cs', h1, h2⟩ := Option.bind_eq_some_iff.1 he
     have hmem : elems[i] ∈ elems := List.getElem_mem _
     have hbi := EA (d := elems[i].1) (l := elems.map (·.1)) (List.mem_map_of_mem hmem)
     obtain ⟨e1, e2, v0, v1, v2, v3, v4, v5, v6, rfl, c0, c1, c2, c3, c4, c5, c6⟩ := Jr h1
     obtain ⟨xs, m, hm, hx, _, hxl, hfs⟩ := DataW.trod_struct Tryz.underlying53 h2
     have f0 := hfs 0 { name := "Name", type := 9, offset := 0, embedded := false, tag := "", pkgPath := "", byteOffset := 0 } rfl
     have f1 := hfs 1 { name := "Value", type := 27, offset := 1, embedded := false, tag := "", pkgPath := "", byteOffset := 16 } rfl
     simp only [Hm, K0, List.drop_zero, List.drop_succ_cons, List.take_succ_cons, List.take_zero] at f0 f1
     match xs, hxl with
     | [y0, y1], _ =>
       have hx1 : elems[i].1 = .agg [y0.1, y1.1] := by rw [hx]; rfl
       have hb2 : Rows.uptoBulk y0.1 + (Rows.uptoBulk y1.1 + 0) + 1 = Rows.uptoBulk elems[i].1 := by rw [hx1]; simp [Rows.uptoBulk, Rows.uptoBulkAll]
       obtain ⟨s, es, ey, _⟩ := DataW.trod_string Tryz.underlying9 (f0 : _ = some y0)
       cases es
       have hss : s.size ≤ LIM := by
        have : Rows.uptoBulk y0.1 = s.data.toList.length + 1 := by rw [ey, Rows.uptoBulk]
        have h3 : s.data.toList.length = s.size := by rw [Array.length_toList]; rfl
        omega
       obtain ⟨t, ht⟩ := ih m (by omega) _ y1 f1 (by omega)
       have hA : a.add (i * 7) = { block := a.block, off := a.off + i * 7, spot := (a.add (i * 7)).spot } := by
        unfold Addr.add
        split
        · rename_i hz
          rw [hz]
          rfl
        · rfl
       have hsp : a.spot = none := by
        have he0 := hel 0 (by omega)
        rw [List.getElem?_eq_getElem (by omega)] at he0
        obtain ⟨cs0, h10, _⟩ := Option.bind_eq_some_iff.1 he0
        have := (Jr h10).1
        simpa [Addr.add] using this
       rw [hA] at e2 c0 c1 c2 c3 c4 c5 c6
       exact ⟨hsp, e2, s, t, v1, v2, v3, v4, v5, v6, c0, hss, c1, c2, c3, c4, c5, c6, ht⟩
   obtain ⟨l, hl, hr⟩ := R8 (fun i hi => (hall i hi).2.2) len (Nat.le_refl _)
   refine ⟨l, some a, cap, by rw [hl], by omega, by omega, ?_⟩
   by_cases h0 : len = 0
   · exact Or.inl (by omega)
   · obtain ⟨hs, hb, _⟩ := hall 0 (by omega)
     rw [Nat.sub_self, Nat.zero_mul, Nat.add_zero] at hr
     refine Or.inr ⟨a.block, a.off, ?_, Nat.zero_le _, hb, hr⟩
     obtain ⟨b, o, spt⟩ := a
     cases hs
     rfl
theorem Q6 : ∀ (fuel : Nat) (cs : List Value) (x : DataW H × List MemPlace), DataW.trod enc Tryz.prog w 0 sp held fuel 27 cs = some x → Rows.uptoBulk x.1 ≤ LIM → ∃ t, RV w 0 w.heap.size t cs := by
 intro fuel
 induction fuel using Nat.strongRecOn with
 | ind fuel ih =>
   intro cs x h hk
   obtain ⟨xs, n, rfl, hx, hcl, hxl, hfs⟩ := DataW.trod_struct Tryz.underlying27 h
   rw [K0] at hcl
   match cs, hcl with
   | [v0, v1, v2, v3, v4, v5], _ =>
     have f0 := hfs 0 { name := "Kind", type := 23, offset := 0, embedded := false, tag := "", pkgPath := "", byteOffset := 0 } rfl
     have f1 := hfs 1 { name := "B", type := 4, offset := 1, embedded := false, tag := "", pkgPath := "", byteOffset := 1 } rfl
     have f2 := hfs 2 { name := "N", type := 2, offset := 2, embedded := false, tag := "", pkgPath := "", byteOffset := 8 } rfl
     have f3 := hfs 3 { name := "S", type := 9, offset := 3, embedded := false, tag := "", pkgPath := "", byteOffset := 16 } rfl
     have f4 := hfs 4 { name := "List", type := 24, offset := 4, embedded := false, tag := "", pkgPath := "", byteOffset := 32 } rfl
     have f5 := hfs 5 { name := "Fields", type := 25, offset := 5, embedded := false, tag := "", pkgPath := "", byteOffset := 56 } rfl
     simp only [QU, N9, Kz, Hm, QT, QS, List.drop_zero, List.drop_succ_cons, List.take_succ_cons, List.take_zero] at f0 f1 f2 f3 f4 f5
     match xs, hxl with
     | [y0, y1, y2, y3, y4, y5], _ =>
       have hb : Rows.uptoBulk y0.1 + (Rows.uptoBulk y1.1 + (Rows.uptoBulk y2.1 + (Rows.uptoBulk y3.1 + (Rows.uptoBulk y4.1 + (Rows.uptoBulk y5.1 + 0))))) + 1 = Rows.uptoBulk x.1 := by rw [hx]; simp [Rows.uptoBulk, Rows.uptoBulkAll]
       obtain ⟨k, e0, _, wk⟩ := DataW.trod_int Tryz.underlying23 (f0 : _ = some y0)
       obtain ⟨b, e1, _⟩ := DataW.trod_bool Tryz.underlying4 (f1 : _ = some y1)
       obtain ⟨m, e2, _, wm⟩ := DataW.trod_int Tryz.underlying2 (f2 : _ = some y2)
       obtain ⟨s, e3, ey, _⟩ := DataW.trod_string Tryz.underlying9 (f3 : _ = some y3)
       obtain ⟨l, a1, c1, e4, hl1, hl2, hl3⟩ := OA (fun m hm => ih m (by omega)) (f4 : _ = some y4) (by omega)
       obtain ⟨f, a2, c2, e5, hf1, hf2, hf3⟩ := O9 (fun m hm => ih m (by omega)) (f5 : _ = some y5) (by omega)
       cases e0; cases e1; cases e2; cases e3; cases e4; cases e5
       have hss : s.size ≤ LIM := by
        have : Rows.uptoBulk y3.1 = s.data.toList.length + 1 := by rw [ey, Rows.uptoBulk]
        have h3 : s.data.toList.length = s.size := by rw [Array.length_toList]; rfl
        omega
       simp only [Lit.wf, Bool.and_eq_true, decide_eq_true_eq] at wk wm
       exact ⟨.mk k b m s l f, a1, c1, a2, c2, rfl, (show (0 : Int) ≤ k ∧ k ≤ 255 from wk), (show I64 m from wm), hss, hl1, hf1, hl2, hf2, hl3, hf3⟩
theorem Ga {base : Nat} {v : Value} {d : DataW H} {ps : List MemPlace} (hv : Value.okWide Tryz.prog w .any base 27 v) (h : DataW.Trod enc Tryz.prog w 0 sp held 27 v d ps) (hk : Rows.uptoBulk d ≤ LIM) :
  ∃ (t : VT) (cs : Fin 6 → Value), v = .agg #[cs 0, cs 1, cs 2, cs 3, cs 4, cs 5] ∧ RV w 0 w.heap.size t [cs 0, cs 1, cs 2, cs 3, cs 4, cs 5] := by
 unfold Value.okWide at hv
 rw [Tryz.underlying27] at hv
 obtain ⟨cs, rfl, hsz, _⟩ := hv
 obtain ⟨fuel, hf⟩ := h
 obtain ⟨t, ht⟩ := Q6 fuel _ (d, ps) hf hk
 obtain ⟨k, b, n, s, l, f, a1, c1, a2, c2, rfl, e, _⟩ := RV.mk_parts ht
 have e' : cs.toList = [.int .u8 k, .bool b, .int .i64 n, .string s, .slice a1 l.len c1, .slice a2 f.len c2] := e
 have e2 : cs = #[.int .u8 k, .bool b, .int .i64 n, .string s, .slice a1 l.len c1, .slice a2 f.len c2] := by
  rw [← Array.toList_inj]
  exact e'
 subst e2
 exact ⟨_, fun i => match i with | 0 => .int .u8 k | 1 => .bool b | 2 => .int .i64 n | 3 => .string s | 4 => .slice a1 l.len c1 | 5 => .slice a2 f.len c2, rfl, ht⟩
end
/- What the listed variables give. -/
open Go.RowKit Go.Shelf Go.Lib
set_option maxRecDepth 100000
theorem Ra : Go.Pinned.utf8First = firstData := by kernel_rfl
theorem OZ : (Rows.laid_unicode_utf8_acceptRanges : DataW Unit) = acceptData := by kernel_rfl
theorem SP : (Rows.laid_internal_strconv_uint64pow10 : DataW Unit) = Lib.tabData .u64 Lib.pow10Tab := by kernel_rfl
theorem RS : Go.Proofs.U8Extra Tryz.prog Tryz.lays196_ren := ⟨by kernel_rfl, by kernel_rfl, by kernel_rfl, by kernel_rfl, by kernel_rfl, by kernel_rfl, by kernel_rfl⟩
theorem RH {W : World} (h : laidMetH Tryz.prog Rows.exprLogicUptoRow.laid W) : Tabs W := by
 have hL : laidMet Tryz.prog Rows.exprLogicUptoRow.laid W := h
 exact utf8Tabs_of_readsT (.of196 Tryz.lays196) RS (Ra ▸ Lib.laidMet.reads hL (n := "unicode/utf8.first") (d := Rows.laid_unicode_utf8_first) (by simp [Rows.exprLogicUptoRow])) (OZ ▸ Lib.laidMet.reads hL (n := "unicode/utf8.acceptRanges") (d := Rows.laid_unicode_utf8_acceptRanges) (by simp [Rows.exprLogicUptoRow]))
theorem S1 {W : World} (h : laidMetH Tryz.prog Rows.exprLogicUptoRow.laid W) : Lib.TabIs Tryz.prog W "internal/strconv.uint64pow10" .u64 Lib.pow10Tab := by
 have hL : laidMet Tryz.prog Rows.exprLogicUptoRow.laid W := h
 have h2 : laidMet Tryz.prog (("internal/strconv.uint64pow10", Lib.tabData .u64 Lib.pow10Tab) :: (Rows.exprLogicUptoRow.laid.drop 3)) W := SP ▸ (show laidMet Tryz.prog (("internal/strconv.uint64pow10", Rows.laid_internal_strconv_uint64pow10) :: (Rows.exprLogicUptoRow.laid.drop 3)) W from laidMet.tail (laidMet.tail hL))
 exact Lib.tabIs_of_head (g := 5) (by kernel_rfl) (t := 229) (by kernel_rfl) Tryz.underlying229 Tryz.underlying152 (by kernel_rfl) (by kernel_rfl) h2
theorem S3 (u : TypeId) (h : Tryz.prog.typeName? 3 u = some "*errors.errorString") : u = 239 :=
 typeName_ptr_named (nm := "errors.errorString") (by rw [show "*" ++ "errors.errorString" = "*errors.errorString" from by decide]; kernel_rfl) (by kernel_rfl) (by decide) u (by rw [show "*" ++ "errors.errorString" = "*errors.errorString" from by decide]; exact h)
theorem QZ {W : World} (h : laidMetH Tryz.prog Rows.exprLogicUptoRow.laid W) : ∃ tp p, W.cell? ⟨2, 0, none⟩ = some (.iface tp p) := by
 have hL : laidMet Tryz.prog Rows.exprLogicUptoRow.laid W := h
 obtain ⟨a, s, hv, _⟩ := laid_sentinel (g := 2) (laidMet.tail (laidMet.tail (laidMet.tail (laidMet.tail (laidMet.tail hL))))) (by kernel_rfl) (by kernel_rfl) Tryz.underlying147 S3 Tryz.underlying239 Tryz.underlying241 rfl rfl Tryz.underlying9 (by kernel_rfl) (by kernel_rfl)
 have := World.var?_cell (show Tryz.prog.globalNamed "strconv.ErrSyntax" = some 2 by kernel_rfl) hv 0
 exact ⟨_, _, this⟩
theorem QY {W : World} (h : laidMetH Tryz.prog Rows.exprLogicUptoRow.laid W) : ∃ tp p, W.cell? ⟨3, 0, none⟩ = some (.iface tp p) := by
 have hL : laidMet Tryz.prog Rows.exprLogicUptoRow.laid W := h
 obtain ⟨a, s, hv, _⟩ := laid_sentinel (g := 3) (laidMet.tail (laidMet.tail (laidMet.tail (laidMet.tail hL)))) (by kernel_rfl) (by kernel_rfl) Tryz.underlying147 S3 Tryz.underlying239 Tryz.underlying241 rfl rfl Tryz.underlying9 (by kernel_rfl) (by kernel_rfl)
 have := World.var?_cell (show Tryz.prog.globalNamed "strconv.ErrRange" = some 3 by kernel_rfl) hv 0
 exact ⟨_, _, this⟩
theorem Rp {W : World} (h : W.ShapedOpen Tryz.prog) : ∃ m, W.cell? ⟨4, 0, none⟩ = some (.int .i64 m) := by
 obtain ⟨cs, h1, h2, h3⟩ := h.1 4 #[.int .i64 0] 3 (of_decide_eq_true (by kernel_rfl)) (by kernel_rfl)
 obtain ⟨ts, e1, _, e3⟩ := h3 (by kernel_rfl)
 have hts : Tryz.prog.cellTypes Tryz.prog.depth 3 = some [3] := by kernel_rfl
 obtain rfl := Option.some.inj (hts.symm.trans e1)
 have hsz : cs.size = 1 := h2
 obtain ⟨v, hv⟩ : ∃ v, cs[0]? = some v := ⟨cs[0], by simp [hsz]⟩
 obtain ⟨u, hu, hok⟩ := e3 0 v hv
 obtain rfl : u = 3 := (Option.some.inj hu).symm
 unfold Cell.ok at hok
 rw [Tryz.underlying3] at hok
 cases v with
 | int k n => exact ⟨n, by rw [← hok.1]; simp [World.cell?, h1, hv]⟩
 | _ => exact hok.elim
theorem Ja {W : World} (h : laidMetH Tryz.prog Rows.exprLogicUptoRow.laid W) (hs : W.ShapedOpen Tryz.prog) : Laid W := ⟨RH h, S1 h, QZ h, QY h, Rp hs⟩
/- The start that is shown to be there: a world in which the seven listed variables hold what their initialisers lay. -/
open Go
def QG : DataW Unit → List Value
 | .lit (.int k n) => [.int k n]
 | _ => []
def Gm : DataW Unit → List Value
 | .agg l => l.flatMap fun d => match d with
   | .agg m => m.flatMap QG
   | d => QG d
 | _ => []
noncomputable def laidWorld (os : Os) : World :=
 let N := (World.settled Tryz.prog os).heap.size
 let w0 := World.holding Tryz.prog os ⟨#[.cells #[.string ⟨#[118, 97, 108, 117, 101, 32, 111, 117, 116, 32, 111, 102, 32, 114, 97, 110, 103, 101]⟩] 241, .cells #[.string ⟨#[105, 110, 118, 97, 108, 105, 100, 32, 115, 121, 110, 116, 97, 120]⟩] 241], #[], []⟩
 let put (h : Array Obj) (g : Nat) (cs : Array Value) : Array Obj := h.modify g fun
  | .cells _ t frozen => .cells cs t frozen
  | o => o
 let h0 := put (put w0.heap 3 #[.iface 239 (.pointer (some ⟨N, 0, none⟩))]) 2 #[.iface 239 (.pointer (some ⟨N + 1, 0, none⟩))]
 let h1 := put (put h0 6 (Gm Rows.laid_math_bits_deBruijn32tab).toArray) 7 (Gm Rows.laid_math_bits_deBruijn64tab).toArray
 let h2 := put (put h1 5 (Gm Rows.laid_internal_strconv_uint64pow10).toArray) 1 (Gm Rows.laid_unicode_utf8_acceptRanges).toArray
 let h3 := put h2 0 (Gm Rows.laid_unicode_utf8_first).toArray
 { w0 with heap := h3 }
noncomputable abbrev N0 : Nat := (World.settled Tryz.prog default).heap.size
set_option maxRecDepth 1000000 in
theorem Ro (os : Os) (args : Array Value) : LaidIn Tryz.prog ((laidWorld os).forCall (fun _ _ => 0) ⟨#[], args, []⟩).memory Rows.exprLogicUptoRow.laid [6, 7, 5, 1, 3, N0, 2, N0 + 1, 0] :=
 LaidIn.of_run [6, 7, 5, 1, 3, N0, 2, N0 + 1, 0] 10 (by kernel_rfl) (by kernel_rfl) (by kernel_rfl) (by kernel_rfl)
theorem Hu (os : Os) (args : Array Value) : laidMet Tryz.prog Rows.exprLogicUptoRow.laid ((laidWorld os).forCall (fun _ _ => 0) ⟨#[], args, []⟩).memory := (Ro os args).met
/- What an argument of []api.Step reads as. -/
set_option maxRecDepth 100000
theorem Mf : Tryz.prog.cellsOf 43 = 3 := by kernel_rfl
theorem QQ : Tryz.prog.cellsOf 33 = 1 := by kernel_rfl
theorem Jo {w : World} {a : Addr} {cs : List Value} (h : w.cells? 0 a 3 = some cs) : a.spot = none ∧ ∃ v0 v1 v2, cs = [v0, v1, v2] ∧ w.cell? ⟨a.block, a.off, none⟩ = some v0 ∧ w.cell? ⟨a.block, a.off + 1, none⟩ = some v1 ∧ w.cell? ⟨a.block, a.off + 2, none⟩ = some v2 := by
 unfold World.cells? at h
 rw [if_pos (Nat.zero_le _)] at h
 obtain ⟨b, o, sp⟩ := a
 simp only [show List.range 3 = [0, 1, 2] from rfl, List.mapM_cons, List.mapM_nil, Option.bind_eq_bind, Option.bind_eq_some_iff, Option.pure_def, Option.some.injEq, Addr.add] at h
 obtain ⟨v0, h0, _, ⟨v1, h1, _, ⟨v2, h2, _, rfl, rfl⟩, rfl⟩, rfl⟩ := h
 simp only [if_pos, if_true, reduceIte, Nat.add_eq, Nat.reduceEqDiff, Nat.one_ne_zero] at h0 h1 h2
 have hsp : sp = none := by
  unfold World.cell? at h0
  split at h0
  · cases sp with
    | none => rfl
    | some x => simp at h0
  · cases h0
 subst hsp
 exact ⟨rfl, v0, v1, v2, rfl, h0, h1, h2⟩
section
variable {H : Type} {enc : TypeId × Value → H} {w : World} {sp : Nat → Bool} {held : Bool}
theorem Mv {fuel : Nat} {cs : List Value} {x : DataW H × List MemPlace} (h : DataW.trod enc Tryz.prog w 0 sp held fuel 43 cs = some x) (hcl : cs.length = 3) (hk : Rows.uptoBulk x.1 ≤ LIM) : ∃ s : ST, cs = [.int .u8 s.k, .string s.t, .int .i64 s.n] ∧ Be s := by
 obtain ⟨xs, n, hm, hx, _, hxl, hfs⟩ := DataW.trod_struct Tryz.underlying43 h
 match cs, hcl with
 | [v0, v1, v2], _ =>
   have f0 := hfs 0 { name := "Kind", type := 33, offset := 0, embedded := false, tag := "", pkgPath := "", byteOffset := 0 } rfl
   have f1 := hfs 1 { name := "Text", type := 9, offset := 1, embedded := false, tag := "", pkgPath := "", byteOffset := 8 } rfl
   have f2 := hfs 2 { name := "N", type := 2, offset := 2, embedded := false, tag := "", pkgPath := "", byteOffset := 24 } rfl
   simp only [QQ, Hm, Kz, List.drop_zero, List.drop_succ_cons, List.take_succ_cons, List.take_zero] at f0 f1 f2
   match xs, hxl with
   | [y0, y1, y2], _ =>
     have hb : Rows.uptoBulk y0.1 + (Rows.uptoBulk y1.1 + (Rows.uptoBulk y2.1 + 0)) + 1 = Rows.uptoBulk x.1 := by rw [hx]; simp [Rows.uptoBulk, Rows.uptoBulkAll]
     obtain ⟨k, e0, _, wk⟩ := DataW.trod_int Tryz.underlying33 (f0 : _ = some y0)
     obtain ⟨s, e1, ey, _⟩ := DataW.trod_string Tryz.underlying9 (f1 : _ = some y1)
     obtain ⟨m, e2, _, wm⟩ := DataW.trod_int Tryz.underlying2 (f2 : _ = some y2)
     cases e0; cases e1; cases e2
     have hss : s.size ≤ LIM := by
      have : Rows.uptoBulk y1.1 = s.data.toList.length + 1 := by rw [ey, Rows.uptoBulk]
      have h3 : s.data.toList.length = s.size := by rw [Array.length_toList]; rfl
      omega
     simp only [Lit.wf, Bool.and_eq_true, decide_eq_true_eq] at wk wm
     have wk2 : (0 : Int) ≤ k ∧ k ≤ 255 := wk
     exact ⟨⟨k, s, m⟩, rfl, (show I64 m from wm), hss, wk2.1⟩
theorem OG {len b o : Nat} (h : ∀ i, i < len → ∃ s : ST, w.cell? ⟨b, o + i * 3, none⟩ = some (.int .u8 s.k) ∧ w.cell? ⟨b, o + i * 3 + 1, none⟩ = some (.string s.t) ∧ w.cell? ⟨b, o + i * 3 + 2, none⟩ = some (.int .i64 s.n) ∧ Be s) :
   ∀ k, k ≤ len → ∃ l : List ST, l.length = k ∧ StepsAt w l b o ∧ ∀ s ∈ l, Be s := by
 intro k
 induction k with
 | zero => intro _; exact ⟨[], rfl, fun i hi => absurd hi (Nat.not_lt_zero _), fun s hs => by cases hs⟩
 | succ k ih =>
   intro hk
   obtain ⟨l, hl, hs, hok⟩ := ih (by omega)
   obtain ⟨s, c0, c1, c2, h3⟩ := h k (by omega)
   refine ⟨l ++ [s], by simp [hl], fun i hi => ?_, fun x hx => ?_⟩
   · by_cases hik : i < l.length
     · rw [List.getElem_append_left hik]
       exact hs i hik
     · have hie : i = k := by simp at hi; omega
       subst hie
       have e : (l ++ [s])[i] = s := by
        rw [List.getElem_append_right (by omega)]
        simp [hl]
       rw [e]
       exact ⟨c0, c1, c2⟩
   · rcases List.mem_append.1 hx with hx | hx
     · exact hok x hx
     · simp only [List.mem_singleton] at hx
       subst hx; exact h3
theorem Qq {fuel : Nat} {cs : List Value} {x : DataW H × List MemPlace} (h : DataW.trod enc Tryz.prog w 0 sp held fuel 22 cs = some x) (hk : Rows.uptoBulk x.1 ≤ LIM) :
   ∃ (l : List ST) (a : Option Addr) (c : Nat), cs = [.slice a l.length c] ∧ l.length ≤ LIM ∧ RowS w l a ∧ ∀ s ∈ l, Be s := by
 rcases DataW.trod_slice Tryz.underlying22 h with ⟨rfl, rfl⟩ | ⟨a, len, cap, elems, rest, n, hf, rfl, rfl, _, hlc, _, hlen, hel, _, _⟩
 · exact ⟨[], none, 0, rfl, Nat.zero_le _, Or.inl rfl, fun s hs => by cases hs⟩
 · rw [Mf] at hel
   have hbk : Rows.uptoBulkAll (elems.map (·.1)) + 1 ≤ LIM := by
     have : Rows.uptoBulkAll (elems.map (·.1)) + Rows.uptoBulkAll (rest.map (·.1)) + 1 ≤ LIM := hk
     omega
   have hll : len ≤ LIM := by
     have := D7 (elems.map (·.1))
     rw [List.length_map, hlen] at this
     omega
   have hall : ∀ i, i < len → a.spot = none ∧ ∃ s : ST, w.cell? ⟨a.block, a.off + i * 3, none⟩ = some (.int .u8 s.k) ∧ w.cell? ⟨a.block, a.off + i * 3 + 1, none⟩ = some (.string s.t) ∧ w.cell? ⟨a.block, a.off + i * 3 + 2, none⟩ = some (.int .i64 s.n) ∧ Be s := by
     intro i hi
     have he := hel i hi
     rw [List.getElem?_eq_getElem (by omega)] at he
     obtain ⟨cs', h1, h2⟩ := Option.bind_eq_some_iff.1 he
     have hmem : elems[i] ∈ elems := List.getElem_mem _
     have hbi := EA (d := elems[i].1) (l := elems.map (·.1)) (List.mem_map_of_mem hmem)
     obtain ⟨e1, v0, v1, v2, rfl, c0, c1, c2⟩ := Jo h1
     obtain ⟨s, e, hok⟩ := Mv h2 rfl (by omega)
     simp only [List.cons.injEq, and_true] at e
     obtain ⟨rfl, rfl, rfl⟩ := e
     have hA : a.add (i * 3) = { block := a.block, off := a.off + i * 3, spot := (a.add (i * 3)).spot } := by
      unfold Addr.add
      split
      · rename_i hz
        rw [hz]
        rfl
      · rfl
     have hsp : a.spot = none := by
      have he0 := hel 0 (by omega)
      rw [List.getElem?_eq_getElem (by omega)] at he0
      obtain ⟨cs0, h10, _⟩ := Option.bind_eq_some_iff.1 he0
      have := (Jo h10).1
      simpa [Addr.add] using this
     rw [hA] at c0 c1 c2
     exact ⟨hsp, s, c0, c1, c2, hok⟩
   obtain ⟨l, hl, hs, hok⟩ := OG (fun i hi => (hall i hi).2) len (Nat.le_refl _)
   refine ⟨l, some a, cap, by rw [hl], by omega, ?_, hok⟩
   by_cases h0 : len = 0
   · exact Or.inl (by omega)
   · obtain ⟨hsp, _⟩ := hall 0 (by omega)
     refine Or.inr ⟨a.block, a.off, ?_, hs⟩
     obtain ⟨b, o, spt⟩ := a
     cases hsp
     rfl
theorem Jm {base : Nat} {v : Value} {d : DataW H} {ps : List MemPlace} (hv : Value.okWide Tryz.prog w .any base 22 v) (h : DataW.Trod enc Tryz.prog w 0 sp held 22 v d ps) (hk : Rows.uptoBulk d ≤ LIM) :
   ∃ (l : List ST) (a : Option Addr) (c : Nat), v = .slice a l.length c ∧ l.length ≤ LIM ∧ RowS w l a ∧ ∀ s ∈ l, Be s := by
 unfold Value.okWide at hv
 rw [Tryz.underlying22] at hv
 obtain ⟨fuel, hf⟩ := h
 obtain ⟨l, a, c, e, h1, h2, h3⟩ := Qq hf hk
 cases v with
 | slice a' l' c' =>
   have e' : [Value.slice a' l' c'] = [.slice a l.length c] := e
   simp only [List.cons.injEq, and_true] at e'
   exact ⟨l, a, c, e', h1, h2, h3⟩
 | _ => exact hv.elim
end
end Go.Proofs.YtbemgcjckchdjaaGreatDoor
