/- The disk's Do. -/
import Derived.Test.YthfmmkabfndbfaaDb
import Derived.Carry
import Derived.Maps.OwnOps
namespace Go.Proofs.Ythfmmkabfndbfaa
open Go.RowKit
set_option linter.unusedSimpArgs false
set_option linter.unusedVariables false

theorem underlying47' : Try.prog.underlying 47 = some (.map 24 46) := by kernel_rfl
theorem underlying24' : Try.prog.underlying 24 = some (.int .u8) := by kernel_rfl
theorem zero46 (w : World) : (zeroValue 46).run Try.prog w = .ok .nilFunc w := by kernel_rfl

theorem heap_last (w : World) (o : Obj) : (w.alloc o).heap[w.heap.size]? = some o := by
  show (w.heap.push o)[w.heap.size]? = _
  simp
theorem set_last (w : World) (o o' : Obj) : ({ (w.alloc o) with heap := (w.alloc o).heap.setIfInBounds w.heap.size o' } : World) = w.alloc o' := by
  show ({ w with heap := (w.heap.push o).setIfInBounds w.heap.size o' } : World) = { w with heap := w.heap.push o' }
  congr 1
  apply Array.ext'
  simp

theorem run_findKey24 (w : World) (k : Int) (es : Array MapEntry) (r : Option (Nat × Value)) (h : Instr.findNow (.int .u8) (.int .u8 k) es.toList 0 = some r) :
    (Instr.findKey 24 (.int .u8 k) es.toList).run Try.prog w = .ok r w := by
  simp only [Instr.findKey, Sem.run_bind, run_underlying underlying24', Result.andThen, h, Sem.run_pure]
theorem run_check24 (w : World) (k : Int) (b : Bool) : (Instr.checkKey b 10000 24 (.int .u8 k)).run Try.prog w = .ok () w := by
  unfold Instr.checkKey
  simp only [Sem.run_bind, run_underlying underlying24', Result.andThen, Sem.run_pure]

/-- a new key goes in at the end -/
theorem run_ins (w : World) (es : Array MapEntry) (c : Nat) (k : Int) (v : Value) (h : Instr.findNow (.int .u8) (.int .u8 k) es.toList 0 = some none) :
    (Instr.mapUpdate 47 (.map (some w.heap.size)) (.int .u8 k) v).run Try.prog (w.alloc (.map es c)) = .ok () (w.alloc (.map (es.push { key := .int .u8 k, val := v, born := c }) (c + 1))) := by
  simp [Instr.mapUpdate, run_underlying underlying47', MapKept.run_getObj_map (heap_last w _), run_check24, run_findKey24 _ _ _ _ h, MapKept.run_setObj_map _ (heap_last w _), Result.andThen]
  exact set_last w _ _

theorem run_look_some (w : World) (es : Array MapEntry) (c : Nat) (k : Int) (i : Nat) (v : Value) (h : Instr.findNow (.int .u8) (.int .u8 k) es.toList 0 = some (some (i, v))) :
    (Instr.lookup 47 (.map (some w.heap.size)) (.int .u8 k) false).run Try.prog (w.alloc (.map es c)) = .ok v (w.alloc (.map es c)) := by
  simp [Instr.lookup, run_underlying underlying47', MapKept.run_getObj_map (heap_last w _), run_check24, run_findKey24 _ _ _ _ h, Result.andThen]
theorem run_look_none (w : World) (es : Array MapEntry) (c : Nat) (k : Int) (h : Instr.findNow (.int .u8) (.int .u8 k) es.toList 0 = some none) :
    (Instr.lookup 47 (.map (some w.heap.size)) (.int .u8 k) false).run Try.prog (w.alloc (.map es c)) = .ok .nilFunc (w.alloc (.map es c)) := by
  simp [Instr.lookup, run_underlying underlying47', MapKept.run_getObj_map (heap_last w _), run_check24, run_findKey24 _ _ _ _ h, Result.andThen]

section
variable (w : World) (O : Obj) (v v1 v2 v3 : Value)
theorem ins1 : (Instr.mapUpdate 47 (.map (some (w.heap.size + 1))) (.int .u8 1) v).run Try.prog ((w.alloc O).alloc (.map #[] 0)) = .ok () ((w.alloc O).alloc (.map #[{ key := .int .u8 1, val := v, born := 0 }] 1)) := by
  simpa using run_ins (w.alloc O) #[] 0 1 v rfl
theorem ins2 : (Instr.mapUpdate 47 (.map (some (w.heap.size + 1))) (.int .u8 2) v).run Try.prog ((w.alloc O).alloc (.map #[{ key := .int .u8 1, val := v1, born := 0 }] 1)) = .ok () ((w.alloc O).alloc (.map #[{ key := .int .u8 1, val := v1, born := 0 }, { key := .int .u8 2, val := v, born := 1 }] 2)) := by
  simpa using run_ins (w.alloc O) #[{ key := .int .u8 1, val := v1, born := 0 }] 1 2 v rfl
theorem ins3 : (Instr.mapUpdate 47 (.map (some (w.heap.size + 1))) (.int .u8 3) v).run Try.prog ((w.alloc O).alloc (.map #[{ key := .int .u8 1, val := v1, born := 0 }, { key := .int .u8 2, val := v2, born := 1 }] 2)) = .ok () ((w.alloc O).alloc (.map #[{ key := .int .u8 1, val := v1, born := 0 }, { key := .int .u8 2, val := v2, born := 1 }, { key := .int .u8 3, val := v, born := 2 }] 3)) := by
  simpa using run_ins (w.alloc O) #[{ key := .int .u8 1, val := v1, born := 0 }, { key := .int .u8 2, val := v2, born := 1 }] 2 3 v rfl
theorem look1 : (Instr.lookup 47 (.map (some (w.heap.size + 1))) (.int .u8 1) false).run Try.prog ((w.alloc O).alloc (.map #[{ key := .int .u8 1, val := v1, born := 0 }, { key := .int .u8 2, val := v2, born := 1 }, { key := .int .u8 3, val := v3, born := 2 }] 3)) = .ok v1 ((w.alloc O).alloc (.map #[{ key := .int .u8 1, val := v1, born := 0 }, { key := .int .u8 2, val := v2, born := 1 }, { key := .int .u8 3, val := v3, born := 2 }] 3)) := by
  simpa using run_look_some (w.alloc O) #[{ key := .int .u8 1, val := v1, born := 0 }, { key := .int .u8 2, val := v2, born := 1 }, { key := .int .u8 3, val := v3, born := 2 }] 3 1 0 v1 rfl
theorem look2 : (Instr.lookup 47 (.map (some (w.heap.size + 1))) (.int .u8 2) false).run Try.prog ((w.alloc O).alloc (.map #[{ key := .int .u8 1, val := v1, born := 0 }, { key := .int .u8 2, val := v2, born := 1 }, { key := .int .u8 3, val := v3, born := 2 }] 3)) = .ok v2 ((w.alloc O).alloc (.map #[{ key := .int .u8 1, val := v1, born := 0 }, { key := .int .u8 2, val := v2, born := 1 }, { key := .int .u8 3, val := v3, born := 2 }] 3)) := by
  simpa using run_look_some (w.alloc O) #[{ key := .int .u8 1, val := v1, born := 0 }, { key := .int .u8 2, val := v2, born := 1 }, { key := .int .u8 3, val := v3, born := 2 }] 3 2 1 v2 rfl
theorem look3 : (Instr.lookup 47 (.map (some (w.heap.size + 1))) (.int .u8 3) false).run Try.prog ((w.alloc O).alloc (.map #[{ key := .int .u8 1, val := v1, born := 0 }, { key := .int .u8 2, val := v2, born := 1 }, { key := .int .u8 3, val := v3, born := 2 }] 3)) = .ok v3 ((w.alloc O).alloc (.map #[{ key := .int .u8 1, val := v1, born := 0 }, { key := .int .u8 2, val := v2, born := 1 }, { key := .int .u8 3, val := v3, born := 2 }] 3)) := by
  simpa using run_look_some (w.alloc O) #[{ key := .int .u8 1, val := v1, born := 0 }, { key := .int .u8 2, val := v2, born := 1 }, { key := .int .u8 3, val := v3, born := 2 }] 3 3 2 v3 rfl
theorem lookn (k : Int) (hk : k = 0 ∨ 4 ≤ k) : (Instr.lookup 47 (.map (some (w.heap.size + 1))) (.int .u8 k) false).run Try.prog ((w.alloc O).alloc (.map #[{ key := .int .u8 1, val := v1, born := 0 }, { key := .int .u8 2, val := v2, born := 1 }, { key := .int .u8 3, val := v3, born := 2 }] 3)) = .ok .nilFunc ((w.alloc O).alloc (.map #[{ key := .int .u8 1, val := v1, born := 0 }, { key := .int .u8 2, val := v2, born := 1 }, { key := .int .u8 3, val := v3, born := 2 }] 3)) := by
  have h1 : (k == 1) = false := by simp; omega
  have h2 : (k == 2) = false := by simp; omega
  have h3 : (k == 3) = false := by simp; omega
  simpa using run_look_none (w.alloc O) #[{ key := .int .u8 1, val := v1, born := 0 }, { key := .int .u8 2, val := v2, born := 1 }, { key := .int .u8 3, val := v3, born := 2 }] 3 k (by simp [Instr.findNow, Instr.sameNow, h1, h2, h3])
end

theorem eq_nil (w : World) : (binOp .eql 46 .nilFunc .nilFunc).run Try.prog w = .ok (.bool true) w := by kernel_rfl
theorem eq_func (w : World) (a : Fn) (b c : Array Value) : (binOp .eql 46 (.func a b c) .nilFunc).run Try.prog w = .ok (.bool false) w := by kernel_rfl

theorem bcellB {B : Nat} {W w1 : World} (hb : Below B W w1) : (∀ b o, b < B → w1.cell? ⟨b, o, none⟩ = W.cell? ⟨b, o, none⟩) ∧ (∀ b o, b < B → w1.frozen? ⟨b, o, none⟩ = W.frozen? ⟨b, o, none⟩) :=
  ⟨fun b o h => hb.cell (p := ⟨b, o, none⟩) h, fun b o h => hb.frozen (p := ⟨b, o, none⟩) h⟩

-- CASES
section
variable (da : ByteArray) (sy ca : Int) (dn : Bool) (fu : Int) (k : Int) (sd : ByteArray) (sz : Int) (w : World)

theorem size3 {w w1 : World} {o1 o2 o3 : Obj} (hb : Below (((w.alloc o1).alloc o2).alloc o3).heap.size (((w.alloc o1).alloc o2).alloc o3) w1) : w.heap.size < w1.heap.size ∧ w.heap.size + 1 < w1.heap.size ∧ w.heap.size + 1 + 1 < w1.heap.size := by
  have := hb.size
  simp at this
  omega

set_option maxHeartbeats 1000000 in
theorem do8_bad (h : okB da sy ca = false) :
    Calls Try.prog 8 #[.agg #[.string da, .int .i64 sy, .int .i64 ca, .bool dn, .int .i64 fu], .agg #[.int .u8 k, .string sd, .int .i64 sz]] w fun e w' => e = .returned (.tuple #[.agg #[.string ⟨#[]⟩, .int .i64 0, .int .i64 0, .bool false, .int .i64 0], .int .i64 6]) ∧ Below w.heap.size w w' := by
  go_enter Try.func8, Try.ntmps8
  go_wp2_with (go_at_call 15; refine (check15_no da sy ca dn fu _ h).mono ?_; rintro e w1 ⟨rfl, hb⟩; obtain ⟨hc, hf⟩ := bcell hb; obtain ⟨hz0, hz1, hz2⟩ := size3 hb)
  refine bodyPost_ret (v := .tuple #[.agg #[.string ⟨#[]⟩, .int .i64 0, .int .i64 0, .bool false, .int .i64 0], .int .i64 6]) (by simp [results, Try.results8, go_sem, hc, hz0, hz1, hz2]) rfl ⟨rfl, ?_⟩
  have hb2 := (((Below.refl w.heap.size w).alloc (Nat.le_refl _) _).alloc (by simp) _).alloc (by simp; omega) _ |>.trans (hb.mono (by simp; omega))
  exact ((((hb2.setCell (by simp; omega) _).setCell (by simp; omega) _).setCell (by simp; omega) _).setCell (by simp; omega) _).setCell (by simp; omega) _

set_option maxHeartbeats 1000000 in
theorem do8_type (h : okB da sy ca = true) (hk : k = 0 ∨ 4 ≤ k) :
    Calls Try.prog 8 #[.agg #[.string da, .int .i64 sy, .int .i64 ca, .bool dn, .int .i64 fu], .agg #[.int .u8 k, .string sd, .int .i64 sz]] w fun e w' => e = .returned (.tuple #[.agg #[.string da, .int .i64 sy, .int .i64 ca, .bool dn, .int .i64 fu], .int .i64 5]) ∧ Below w.heap.size w w' := by
  have hmm := @run_makeMap Try.prog
  have i1 := ins1
  have i2 := ins2
  have i3 := ins3
  have i4 := fun w O v1 v2 v3 => lookn w O v1 v2 v3 k hk
  have i5 := eq_nil
  have i6 := eq_func
  go_enter Try.func8, Try.ntmps8
  go_wp2_with (go_at_call 15; refine (check15_ok da sy ca dn fu _ h).mono ?_; rintro e w1 ⟨rfl, hb⟩; obtain ⟨hc, hf⟩ := bcell hb; obtain ⟨hz0, hz1, hz2⟩ := size3 hb)
  refine bodyPost_ret (v := .tuple #[.agg #[.string da, .int .i64 sy, .int .i64 ca, .bool dn, .int .i64 fu], .int .i64 5]) (by simp [results, Try.results8, go_sem, hc, hz0, hz1, hz2]) rfl ⟨rfl, ?_⟩
  have hb2 := (((Below.refl w.heap.size w).alloc (Nat.le_refl _) _).alloc (by simp) _).alloc (by simp; omega) _ |>.trans (hb.mono (by simp; omega))
  exact Below.alloc (Below.alloc (Below.setCell (Below.setCell (Below.setCell (Below.setCell (Below.setCell hb2 (by simp; omega) _) (by simp; omega) _) (by simp; omega) _) (by simp; omega) _) (by simp; omega) _) (by simp; omega) _) (by simp; omega) _

set_option maxHeartbeats 1000000 in
theorem do8_down1 (h : okB da sy ca = true) :
    Calls Try.prog 8 #[.agg #[.string da, .int .i64 sy, .int .i64 ca, .bool true, .int .i64 fu], .agg #[.int .u8 1, .string sd, .int .i64 sz]] w fun e w' => e = .returned (.tuple #[.agg #[.string da, .int .i64 sy, .int .i64 ca, .bool true, .int .i64 fu], .int .i64 12]) ∧ Below w.heap.size w w' := by
  have hmm := @run_makeMap Try.prog
  have i1 := ins1
  have i2 := ins2
  have i3 := ins3
  have i4 := look1
  have i5 := eq_nil
  have i6 := eq_func
  go_enter Try.func8, Try.ntmps8
  go_wp2_with (go_at_call 15; refine (check15_ok da sy ca true fu _ h).mono ?_; rintro e w1 ⟨rfl, hb⟩; obtain ⟨hc, hf⟩ := bcell hb; obtain ⟨hz0, hz1, hz2⟩ := size3 hb)
  refine bodyPost_ret (v := .tuple #[.agg #[.string da, .int .i64 sy, .int .i64 ca, .bool true, .int .i64 fu], .int .i64 12]) (by simp [results, Try.results8, go_sem, hc, hz0, hz1, hz2]) rfl ⟨rfl, ?_⟩
  have hb2 := (((Below.refl w.heap.size w).alloc (Nat.le_refl _) _).alloc (by simp) _).alloc (by simp; omega) _ |>.trans (hb.mono (by simp; omega))
  exact Below.alloc (Below.alloc (Below.setCell (Below.setCell (Below.setCell (Below.setCell (Below.setCell hb2 (by simp; omega) _) (by simp; omega) _) (by simp; omega) _) (by simp; omega) _) (by simp; omega) _) (by simp; omega) _) (by simp; omega) _

set_option maxHeartbeats 1000000 in
theorem do8_down2 (h : okB da sy ca = true) :
    Calls Try.prog 8 #[.agg #[.string da, .int .i64 sy, .int .i64 ca, .bool true, .int .i64 fu], .agg #[.int .u8 2, .string sd, .int .i64 sz]] w fun e w' => e = .returned (.tuple #[.agg #[.string da, .int .i64 sy, .int .i64 ca, .bool true, .int .i64 fu], .int .i64 12]) ∧ Below w.heap.size w w' := by
  have hmm := @run_makeMap Try.prog
  have i1 := ins1
  have i2 := ins2
  have i3 := ins3
  have i4 := look2
  have i5 := eq_nil
  have i6 := eq_func
  go_enter Try.func8, Try.ntmps8
  go_wp2_with (go_at_call 15; refine (check15_ok da sy ca true fu _ h).mono ?_; rintro e w1 ⟨rfl, hb⟩; obtain ⟨hc, hf⟩ := bcell hb; obtain ⟨hz0, hz1, hz2⟩ := size3 hb)
  refine bodyPost_ret (v := .tuple #[.agg #[.string da, .int .i64 sy, .int .i64 ca, .bool true, .int .i64 fu], .int .i64 12]) (by simp [results, Try.results8, go_sem, hc, hz0, hz1, hz2]) rfl ⟨rfl, ?_⟩
  have hb2 := (((Below.refl w.heap.size w).alloc (Nat.le_refl _) _).alloc (by simp) _).alloc (by simp; omega) _ |>.trans (hb.mono (by simp; omega))
  exact Below.alloc (Below.alloc (Below.setCell (Below.setCell (Below.setCell (Below.setCell (Below.setCell hb2 (by simp; omega) _) (by simp; omega) _) (by simp; omega) _) (by simp; omega) _) (by simp; omega) _) (by simp; omega) _) (by simp; omega) _

set_option maxHeartbeats 1000000 in
theorem do8_down3 (h : okB da sy ca = true) :
    Calls Try.prog 8 #[.agg #[.string da, .int .i64 sy, .int .i64 ca, .bool true, .int .i64 fu], .agg #[.int .u8 3, .string sd, .int .i64 sz]] w fun e w' => e = .returned (.tuple #[.agg #[.string da, .int .i64 sy, .int .i64 ca, .bool true, .int .i64 fu], .int .i64 12]) ∧ Below w.heap.size w w' := by
  have hmm := @run_makeMap Try.prog
  have i1 := ins1
  have i2 := ins2
  have i3 := ins3
  have i4 := look3
  have i5 := eq_nil
  have i6 := eq_func
  go_enter Try.func8, Try.ntmps8
  go_wp2_with (go_at_call 15; refine (check15_ok da sy ca true fu _ h).mono ?_; rintro e w1 ⟨rfl, hb⟩; obtain ⟨hc, hf⟩ := bcell hb; obtain ⟨hz0, hz1, hz2⟩ := size3 hb)
  refine bodyPost_ret (v := .tuple #[.agg #[.string da, .int .i64 sy, .int .i64 ca, .bool true, .int .i64 fu], .int .i64 12]) (by simp [results, Try.results8, go_sem, hc, hz0, hz1, hz2]) rfl ⟨rfl, ?_⟩
  have hb2 := (((Below.refl w.heap.size w).alloc (Nat.le_refl _) _).alloc (by simp) _).alloc (by simp; omega) _ |>.trans (hb.mono (by simp; omega))
  exact Below.alloc (Below.alloc (Below.setCell (Below.setCell (Below.setCell (Below.setCell (Below.setCell hb2 (by simp; omega) _) (by simp; omega) _) (by simp; omega) _) (by simp; omega) _) (by simp; omega) _) (by simp; omega) _) (by simp; omega) _

theorem plate_new (w1 : World) (O O2 : Obj) : ((w1.alloc O).alloc O2).heap[w1.heap.size]? = some O := by
  rw [Below.heap_alloc _ _ _ (by simp)]
  exact heap_last _ _

set_option maxHeartbeats 1000000 in
theorem do8_full (h : okB da sy ca = true) (h1 : ca - (da.size : Int) < (sd.size : Int)) :
    Calls Try.prog 8 #[.agg #[.string da, .int .i64 sy, .int .i64 ca, .bool false, .int .i64 fu], .agg #[.int .u8 1, .string sd, .int .i64 sz]] w fun e w' => e = .returned (.tuple #[.agg #[.string da, .int .i64 sy, .int .i64 ca, .bool false, .int .i64 fu], .int .i64 8]) ∧ Below w.heap.size w w' := by
  obtain ⟨g1, g2, g3, g4, g5⟩ := okB_true h
  have hmm := @run_makeMap Try.prog
  have i1 := ins1
  have i2 := ins2
  have i3 := ins3
  have i4 := look1
  have i5 := eq_nil
  have i6 := eq_func
  go_enter Try.func8, Try.ntmps8
  go_wp2_with (first | (go_at_call 15; refine (check15_ok da sy ca false fu _ h).mono ?_; rintro e w1 ⟨rfl, hb⟩; obtain ⟨hc, hf⟩ := bcell hb; obtain ⟨hz0, hz1, hz2⟩ := size3 hb) | (go_at_call 19; refine (write19_no' w1.heap.size da sy ca false fu 1 sd sz _ _ (plate_new _ _ _) h1 g1 g2 g3).mono ?_; rintro e w2 ⟨rfl, hl, hp⟩; obtain ⟨hc2, hf2⟩ := bcellB hl; obtain ⟨c0, c1, c2, c3, c4, c5, c6, c7, hfp⟩ := plate_cells _ _ _ _ _ _ _ _ _ _ hp; have hq := lt_of_block hp))
  refine bodyPost_ret (v := .tuple #[.agg #[.string da, .int .i64 sy, .int .i64 ca, .bool false, .int .i64 fu], .int .i64 8]) (by simp [results, Try.results8, go_sem, hc, hc2, hz0, hz1, hz2, hq]) rfl ⟨rfl, ?_⟩
  have hb2 := (((Below.refl w.heap.size w).alloc (Nat.le_refl _) _).alloc (by simp) _).alloc (by simp; omega) _ |>.trans (hb.mono (by simp; omega))
  have hb3 := (Below.alloc (Below.alloc hb2 (by omega) _) (by simp; omega) _).trans (hl.mono (Nat.le_of_lt hz0))
  repeat (first | with_reducible exact hb3 | refine Below.setCell ?_ (by first | omega | (simp; omega)) _)

set_option maxHeartbeats 1000000 in
theorem do8_neg (h : okB da sy ca = true) (h1 : sz < 0) :
    Calls Try.prog 8 #[.agg #[.string da, .int .i64 sy, .int .i64 ca, .bool false, .int .i64 fu], .agg #[.int .u8 3, .string sd, .int .i64 sz]] w fun e w' => e = .returned (.tuple #[.agg #[.string da, .int .i64 sy, .int .i64 ca, .bool false, .int .i64 fu], .int .i64 2]) ∧ Below w.heap.size w w' := by
  obtain ⟨g1, g2, g3, g4, g5⟩ := okB_true h
  have hmm := @run_makeMap Try.prog
  have i1 := ins1
  have i2 := ins2
  have i3 := ins3
  have i4 := look3
  have i5 := eq_nil
  have i6 := eq_func
  go_enter Try.func8, Try.ntmps8
  go_wp2_with (first | (go_at_call 15; refine (check15_ok da sy ca false fu _ h).mono ?_; rintro e w1 ⟨rfl, hb⟩; obtain ⟨hc, hf⟩ := bcell hb; obtain ⟨hz0, hz1, hz2⟩ := size3 hb) | (go_at_call 21; refine (cut21_neg' w1.heap.size da sy ca false fu 3 sd sz _ _ (plate_new _ _ _) h1).mono ?_; rintro e w2 ⟨rfl, hl, hp⟩; obtain ⟨hc2, hf2⟩ := bcellB hl; obtain ⟨c0, c1, c2, c3, c4, c5, c6, c7, hfp⟩ := plate_cells _ _ _ _ _ _ _ _ _ _ hp; have hq := lt_of_block hp))
  refine bodyPost_ret (v := .tuple #[.agg #[.string da, .int .i64 sy, .int .i64 ca, .bool false, .int .i64 fu], .int .i64 2]) (by simp [results, Try.results8, go_sem, hc, hc2, hz0, hz1, hz2, hq]) rfl ⟨rfl, ?_⟩
  have hb2 := (((Below.refl w.heap.size w).alloc (Nat.le_refl _) _).alloc (by simp) _).alloc (by simp; omega) _ |>.trans (hb.mono (by simp; omega))
  have hb3 := (Below.alloc (Below.alloc hb2 (by omega) _) (by simp; omega) _).trans (hl.mono (Nat.le_of_lt hz0))
  repeat (first | with_reducible exact hb3 | refine Below.setCell ?_ (by first | omega | (simp; omega)) _)

set_option maxHeartbeats 1000000 in
theorem do8_big (h : okB da sy ca = true) (h1 : 0 ≤ sz) (h2 : (da.size : Int) < sz) :
    Calls Try.prog 8 #[.agg #[.string da, .int .i64 sy, .int .i64 ca, .bool false, .int .i64 fu], .agg #[.int .u8 3, .string sd, .int .i64 sz]] w fun e w' => e = .returned (.tuple #[.agg #[.string da, .int .i64 sy, .int .i64 ca, .bool false, .int .i64 fu], .int .i64 2]) ∧ Below w.heap.size w w' := by
  obtain ⟨g1, g2, g3, g4, g5⟩ := okB_true h
  have hmm := @run_makeMap Try.prog
  have i1 := ins1
  have i2 := ins2
  have i3 := ins3
  have i4 := look3
  have i5 := eq_nil
  have i6 := eq_func
  go_enter Try.func8, Try.ntmps8
  go_wp2_with (first | (go_at_call 15; refine (check15_ok da sy ca false fu _ h).mono ?_; rintro e w1 ⟨rfl, hb⟩; obtain ⟨hc, hf⟩ := bcell hb; obtain ⟨hz0, hz1, hz2⟩ := size3 hb) | (go_at_call 21; refine (cut21_big' w1.heap.size da sy ca false fu 3 sd sz _ _ (plate_new _ _ _) h1 h2).mono ?_; rintro e w2 ⟨rfl, hl, hp⟩; obtain ⟨hc2, hf2⟩ := bcellB hl; obtain ⟨c0, c1, c2, c3, c4, c5, c6, c7, hfp⟩ := plate_cells _ _ _ _ _ _ _ _ _ _ hp; have hq := lt_of_block hp))
  refine bodyPost_ret (v := .tuple #[.agg #[.string da, .int .i64 sy, .int .i64 ca, .bool false, .int .i64 fu], .int .i64 2]) (by simp [results, Try.results8, go_sem, hc, hc2, hz0, hz1, hz2, hq]) rfl ⟨rfl, ?_⟩
  have hb2 := (((Below.refl w.heap.size w).alloc (Nat.le_refl _) _).alloc (by simp) _).alloc (by simp; omega) _ |>.trans (hb.mono (by simp; omega))
  have hb3 := (Below.alloc (Below.alloc hb2 (by omega) _) (by simp; omega) _).trans (hl.mono (Nat.le_of_lt hz0))
  repeat (first | with_reducible exact hb3 | refine Below.setCell ?_ (by first | omega | (simp; omega)) _)

set_option maxHeartbeats 1000000 in
theorem do8_wz (h : okB da sy ca = true) (h1 : (sd.size : Int) ≤ ca - (da.size : Int))  :
    Calls Try.prog 8 #[.agg #[.string da, .int .i64 sy, .int .i64 ca, .bool false, .int .i64 0], .agg #[.int .u8 1, .string sd, .int .i64 sz]] w fun e w' => e = .returned (.tuple #[.agg #[.string (da ++ sd), .int .i64 sy, .int .i64 ca, .bool true, .int .i64 0], .int .i64 12]) ∧ Below w.heap.size w w' := by
  obtain ⟨g1, g2, g3, g4, g5⟩ := okB_true h
  have hmm := @run_makeMap Try.prog
  have i1 := ins1
  have i2 := ins2
  have i3 := ins3
  have i4 := look1
  have i5 := eq_nil
  have i6 := eq_func
  go_enter Try.func8, Try.ntmps8
  go_wp2_with (first | (go_at_call 15; refine (check15_ok da sy ca false 0 _ h).mono ?_; rintro e w1 ⟨rfl, hb⟩; obtain ⟨hc, hf⟩ := bcell hb; obtain ⟨hz0, hz1, hz2⟩ := size3 hb) | (go_at_call 19; refine (write19_ok' w1.heap.size da sy ca false 0 1 sd sz _ _ (plate_new _ _ _) h1 g1 g2 g3).mono ?_; rintro e w2 ⟨rfl, hl, hp⟩; obtain ⟨hc2, hf2⟩ := bcellB hl; obtain ⟨c0, c1, c2, c3, c4, c5, c6, c7, hfp⟩ := plate_cells _ _ _ _ _ _ _ _ _ _ hp; have hq := lt_of_block hp))
  refine bodyPost_ret (v := .tuple #[.agg #[.string (da ++ sd), .int .i64 sy, .int .i64 ca, .bool true, .int .i64 0], .int .i64 12]) (by simp [results, Try.results8, go_sem, hc, hc2, hz0, hz1, hz2, hq]) rfl ⟨rfl, ?_⟩
  have hb2 := (((Below.refl w.heap.size w).alloc (Nat.le_refl _) _).alloc (by simp) _).alloc (by simp; omega) _ |>.trans (hb.mono (by simp; omega))
  have hb3 := (Below.alloc (Below.alloc hb2 (by omega) _) (by simp; omega) _).trans (hl.mono (Nat.le_of_lt hz0))
  repeat (first | with_reducible exact hb3 | refine Below.setCell ?_ (by first | omega | (simp; omega)) _)

set_option maxHeartbeats 1000000 in
theorem do8_sz (h : okB da sy ca = true)  :
    Calls Try.prog 8 #[.agg #[.string da, .int .i64 sy, .int .i64 ca, .bool false, .int .i64 0], .agg #[.int .u8 2, .string sd, .int .i64 sz]] w fun e w' => e = .returned (.tuple #[.agg #[.string da, .int .i64 sy, .int .i64 ca, .bool true, .int .i64 0], .int .i64 12]) ∧ Below w.heap.size w w' := by
  obtain ⟨g1, g2, g3, g4, g5⟩ := okB_true h
  have hmm := @run_makeMap Try.prog
  have i1 := ins1
  have i2 := ins2
  have i3 := ins3
  have i4 := look2
  have i5 := eq_nil
  have i6 := eq_func
  go_enter Try.func8, Try.ntmps8
  go_wp2_with (first | (go_at_call 15; refine (check15_ok da sy ca false 0 _ h).mono ?_; rintro e w1 ⟨rfl, hb⟩; obtain ⟨hc, hf⟩ := bcell hb; obtain ⟨hz0, hz1, hz2⟩ := size3 hb) | (go_at_call 20; refine (sync20_off' w1.heap.size da sy ca false 0 2 sd sz _ (plate_new _ _ _)).mono ?_; rintro e w2 ⟨rfl, hl, hp⟩; obtain ⟨hc2, hf2⟩ := bcellB hl; obtain ⟨c0, c1, c2, c3, c4, c5, c6, c7, hfp⟩ := plate_cells _ _ _ _ _ _ _ _ _ _ hp; have hq := lt_of_block hp))
  refine bodyPost_ret (v := .tuple #[.agg #[.string da, .int .i64 sy, .int .i64 ca, .bool true, .int .i64 0], .int .i64 12]) (by simp [results, Try.results8, go_sem, hc, hc2, hz0, hz1, hz2, hq]) rfl ⟨rfl, ?_⟩
  have hb2 := (((Below.refl w.heap.size w).alloc (Nat.le_refl _) _).alloc (by simp) _).alloc (by simp; omega) _ |>.trans (hb.mono (by simp; omega))
  have hb3 := (Below.alloc (Below.alloc hb2 (by omega) _) (by simp; omega) _).trans (hl.mono (Nat.le_of_lt hz0))
  repeat (first | with_reducible exact hb3 | refine Below.setCell ?_ (by first | omega | (simp; omega)) _)

set_option maxHeartbeats 1000000 in
theorem do8_cz (h : okB da sy ca = true) (h1 : 0 ≤ sz) (h2 : sz ≤ (da.size : Int))  :
    Calls Try.prog 8 #[.agg #[.string da, .int .i64 sy, .int .i64 ca, .bool false, .int .i64 0], .agg #[.int .u8 3, .string sd, .int .i64 sz]] w fun e w' => e = .returned (.tuple #[.agg #[.string da, .int .i64 sy, .int .i64 ca, .bool true, .int .i64 0], .int .i64 12]) ∧ Below w.heap.size w w' := by
  obtain ⟨g1, g2, g3, g4, g5⟩ := okB_true h
  have hmm := @run_makeMap Try.prog
  have i1 := ins1
  have i2 := ins2
  have i3 := ins3
  have i4 := look3
  have i5 := eq_nil
  have i6 := eq_func
  go_enter Try.func8, Try.ntmps8
  go_wp2_with (first | (go_at_call 15; refine (check15_ok da sy ca false 0 _ h).mono ?_; rintro e w1 ⟨rfl, hb⟩; obtain ⟨hc, hf⟩ := bcell hb; obtain ⟨hz0, hz1, hz2⟩ := size3 hb) | (go_at_call 21; refine (cut21_off' w1.heap.size da sy ca false 0 3 sd sz _ (plate_new _ _ _) h1 h2).mono ?_; rintro e w2 ⟨rfl, hl, hp⟩; obtain ⟨hc2, hf2⟩ := bcellB hl; obtain ⟨c0, c1, c2, c3, c4, c5, c6, c7, hfp⟩ := plate_cells _ _ _ _ _ _ _ _ _ _ hp; have hq := lt_of_block hp))
  refine bodyPost_ret (v := .tuple #[.agg #[.string da, .int .i64 sy, .int .i64 ca, .bool true, .int .i64 0], .int .i64 12]) (by simp [results, Try.results8, go_sem, hc, hc2, hz0, hz1, hz2, hq]) rfl ⟨rfl, ?_⟩
  have hb2 := (((Below.refl w.heap.size w).alloc (Nat.le_refl _) _).alloc (by simp) _).alloc (by simp; omega) _ |>.trans (hb.mono (by simp; omega))
  have hb3 := (Below.alloc (Below.alloc hb2 (by omega) _) (by simp; omega) _).trans (hl.mono (Nat.le_of_lt hz0))
  repeat (first | with_reducible exact hb3 | refine Below.setCell ?_ (by first | omega | (simp; omega)) _)

set_option maxHeartbeats 1000000 in
theorem do8_wp (h : okB da sy ca = true) (h1 : (sd.size : Int) ≤ ca - (da.size : Int)) (hu : 0 < fu) (hu2 : fu ≤ 9223372036854775807) :
    Calls Try.prog 8 #[.agg #[.string da, .int .i64 sy, .int .i64 ca, .bool false, .int .i64 fu], .agg #[.int .u8 1, .string sd, .int .i64 sz]] w fun e w' => e = .returned (.tuple #[.agg #[.string (da ++ sd), .int .i64 sy, .int .i64 ca, .bool false, .int .i64 (fu - 1)], .int .i64 0]) ∧ Below w.heap.size w w' := by
  obtain ⟨g1, g2, g3, g4, g5⟩ := okB_true h
  have hmm := @run_makeMap Try.prog
  have i1 := ins1
  have i2 := ins2
  have i3 := ins3
  have i4 := look1
  have i5 := eq_nil
  have i6 := eq_func
  have e0 : (fu != 0) = true := by simp; omega
  have e1 : (fu == 0) = false := by simp; omega
  go_enter Try.func8, Try.ntmps8
  go_wp2_with (first | (go_at_call 15; refine (check15_ok da sy ca false fu _ h).mono ?_; rintro e w1 ⟨rfl, hb⟩; obtain ⟨hc, hf⟩ := bcell hb; obtain ⟨hz0, hz1, hz2⟩ := size3 hb) | (go_at_call 19; refine (write19_ok' w1.heap.size da sy ca false fu 1 sd sz _ _ (plate_new _ _ _) h1 g1 g2 g3).mono ?_; rintro e w2 ⟨rfl, hl, hp⟩; obtain ⟨hc2, hf2⟩ := bcellB hl; obtain ⟨c0, c1, c2, c3, c4, c5, c6, c7, hfp⟩ := plate_cells _ _ _ _ _ _ _ _ _ _ hp; have hq := lt_of_block hp))
  refine bodyPost_ret (v := .tuple #[.agg #[.string (da ++ sd), .int .i64 sy, .int .i64 ca, .bool false, .int .i64 (fu - 1)], .int .i64 0]) (by simp [results, Try.results8, go_sem, hc, hc2, hz0, hz1, hz2, hq]) rfl ⟨rfl, ?_⟩
  have hb2 := (((Below.refl w.heap.size w).alloc (Nat.le_refl _) _).alloc (by simp) _).alloc (by simp; omega) _ |>.trans (hb.mono (by simp; omega))
  have hb3 := (Below.alloc (Below.alloc hb2 (by omega) _) (by simp; omega) _).trans (hl.mono (Nat.le_of_lt hz0))
  repeat (first | with_reducible exact hb3 | refine Below.setCell ?_ (by first | omega | (simp; omega)) _)

set_option maxHeartbeats 1000000 in
theorem do8_sp (h : okB da sy ca = true) (hu : 0 < fu) (hu2 : fu ≤ 9223372036854775807) :
    Calls Try.prog 8 #[.agg #[.string da, .int .i64 sy, .int .i64 ca, .bool false, .int .i64 fu], .agg #[.int .u8 2, .string sd, .int .i64 sz]] w fun e w' => e = .returned (.tuple #[.agg #[.string da, .int .i64 da.size, .int .i64 ca, .bool false, .int .i64 (fu - 1)], .int .i64 0]) ∧ Below w.heap.size w w' := by
  obtain ⟨g1, g2, g3, g4, g5⟩ := okB_true h
  have hmm := @run_makeMap Try.prog
  have i1 := ins1
  have i2 := ins2
  have i3 := ins3
  have i4 := look2
  have i5 := eq_nil
  have i6 := eq_func
  have e0 : (fu != 0) = true := by simp; omega
  have e1 : (fu == 0) = false := by simp; omega
  go_enter Try.func8, Try.ntmps8
  go_wp2_with (first | (go_at_call 15; refine (check15_ok da sy ca false fu _ h).mono ?_; rintro e w1 ⟨rfl, hb⟩; obtain ⟨hc, hf⟩ := bcell hb; obtain ⟨hz0, hz1, hz2⟩ := size3 hb) | (go_at_call 20; refine (sync20_on' w1.heap.size da sy ca false fu 2 sd sz _ (plate_new _ _ _)).mono ?_; rintro e w2 ⟨rfl, hl, hp⟩; obtain ⟨hc2, hf2⟩ := bcellB hl; obtain ⟨c0, c1, c2, c3, c4, c5, c6, c7, hfp⟩ := plate_cells _ _ _ _ _ _ _ _ _ _ hp; have hq := lt_of_block hp))
  refine bodyPost_ret (v := .tuple #[.agg #[.string da, .int .i64 da.size, .int .i64 ca, .bool false, .int .i64 (fu - 1)], .int .i64 0]) (by simp [results, Try.results8, go_sem, hc, hc2, hz0, hz1, hz2, hq]) rfl ⟨rfl, ?_⟩
  have hb2 := (((Below.refl w.heap.size w).alloc (Nat.le_refl _) _).alloc (by simp) _).alloc (by simp; omega) _ |>.trans (hb.mono (by simp; omega))
  have hb3 := (Below.alloc (Below.alloc hb2 (by omega) _) (by simp; omega) _).trans (hl.mono (Nat.le_of_lt hz0))
  repeat (first | with_reducible exact hb3 | refine Below.setCell ?_ (by first | omega | (simp; omega)) _)

set_option maxHeartbeats 1000000 in
theorem do8_cp (h : okB da sy ca = true) (h1 : 0 ≤ sz) (h2 : sz ≤ (da.size : Int)) (hu : 0 < fu) (hu2 : fu ≤ 9223372036854775807) :
    Calls Try.prog 8 #[.agg #[.string da, .int .i64 sy, .int .i64 ca, .bool false, .int .i64 fu], .agg #[.int .u8 3, .string sd, .int .i64 sz]] w fun e w' => e = .returned (.tuple #[.agg #[.string (da.extract 0 sz.toNat), .int .i64 sz, .int .i64 ca, .bool false, .int .i64 (fu - 1)], .int .i64 0]) ∧ Below w.heap.size w w' := by
  obtain ⟨g1, g2, g3, g4, g5⟩ := okB_true h
  have hmm := @run_makeMap Try.prog
  have i1 := ins1
  have i2 := ins2
  have i3 := ins3
  have i4 := look3
  have i5 := eq_nil
  have i6 := eq_func
  have e0 : (fu != 0) = true := by simp; omega
  have e1 : (fu == 0) = false := by simp; omega
  go_enter Try.func8, Try.ntmps8
  go_wp2_with (first | (go_at_call 15; refine (check15_ok da sy ca false fu _ h).mono ?_; rintro e w1 ⟨rfl, hb⟩; obtain ⟨hc, hf⟩ := bcell hb; obtain ⟨hz0, hz1, hz2⟩ := size3 hb) | (go_at_call 21; refine (cut21_on' w1.heap.size da sy ca false fu 3 sd sz _ (plate_new _ _ _) h1 h2).mono ?_; rintro e w2 ⟨rfl, hl, hp⟩; obtain ⟨hc2, hf2⟩ := bcellB hl; obtain ⟨c0, c1, c2, c3, c4, c5, c6, c7, hfp⟩ := plate_cells _ _ _ _ _ _ _ _ _ _ hp; have hq := lt_of_block hp))
  refine bodyPost_ret (v := .tuple #[.agg #[.string (da.extract 0 sz.toNat), .int .i64 sz, .int .i64 ca, .bool false, .int .i64 (fu - 1)], .int .i64 0]) (by simp [results, Try.results8, go_sem, hc, hc2, hz0, hz1, hz2, hq]) rfl ⟨rfl, ?_⟩
  have hb2 := (((Below.refl w.heap.size w).alloc (Nat.le_refl _) _).alloc (by simp) _).alloc (by simp; omega) _ |>.trans (hb.mono (by simp; omega))
  have hb3 := (Below.alloc (Below.alloc hb2 (by omega) _) (by simp; omega) _).trans (hl.mono (Nat.le_of_lt hz0))
  repeat (first | with_reducible exact hb3 | refine Below.setCell ?_ (by first | omega | (simp; omega)) _)

set_option maxHeartbeats 1000000 in
theorem do8_wn (h : okB da sy ca = true) (h1 : (sd.size : Int) ≤ ca - (da.size : Int)) (hu : fu < 0) :
    Calls Try.prog 8 #[.agg #[.string da, .int .i64 sy, .int .i64 ca, .bool false, .int .i64 fu], .agg #[.int .u8 1, .string sd, .int .i64 sz]] w fun e w' => e = .returned (.tuple #[.agg #[.string (da ++ sd), .int .i64 sy, .int .i64 ca, .bool false, .int .i64 fu], .int .i64 0]) ∧ Below w.heap.size w w' := by
  obtain ⟨g1, g2, g3, g4, g5⟩ := okB_true h
  have hmm := @run_makeMap Try.prog
  have i1 := ins1
  have i2 := ins2
  have i3 := ins3
  have i4 := look1
  have i5 := eq_nil
  have i6 := eq_func
  have e0 : (fu != 0) = true := by simp; omega
  have e1 : (fu == 0) = false := by simp; omega
  have e2 : decide (0 < fu) = false := by simp; omega
  go_enter Try.func8, Try.ntmps8
  go_wp2_with (first | (go_at_call 15; refine (check15_ok da sy ca false fu _ h).mono ?_; rintro e w1 ⟨rfl, hb⟩; obtain ⟨hc, hf⟩ := bcell hb; obtain ⟨hz0, hz1, hz2⟩ := size3 hb) | (go_at_call 19; refine (write19_ok' w1.heap.size da sy ca false fu 1 sd sz _ _ (plate_new _ _ _) h1 g1 g2 g3).mono ?_; rintro e w2 ⟨rfl, hl, hp⟩; obtain ⟨hc2, hf2⟩ := bcellB hl; obtain ⟨c0, c1, c2, c3, c4, c5, c6, c7, hfp⟩ := plate_cells _ _ _ _ _ _ _ _ _ _ hp; have hq := lt_of_block hp))
  refine bodyPost_ret (v := .tuple #[.agg #[.string (da ++ sd), .int .i64 sy, .int .i64 ca, .bool false, .int .i64 fu], .int .i64 0]) (by simp [results, Try.results8, go_sem, hc, hc2, hz0, hz1, hz2, hq]) rfl ⟨rfl, ?_⟩
  have hb2 := (((Below.refl w.heap.size w).alloc (Nat.le_refl _) _).alloc (by simp) _).alloc (by simp; omega) _ |>.trans (hb.mono (by simp; omega))
  have hb3 := (Below.alloc (Below.alloc hb2 (by omega) _) (by simp; omega) _).trans (hl.mono (Nat.le_of_lt hz0))
  repeat (first | with_reducible exact hb3 | refine Below.setCell ?_ (by first | omega | (simp; omega)) _)

set_option maxHeartbeats 1000000 in
theorem do8_sn (h : okB da sy ca = true) (hu : fu < 0) :
    Calls Try.prog 8 #[.agg #[.string da, .int .i64 sy, .int .i64 ca, .bool false, .int .i64 fu], .agg #[.int .u8 2, .string sd, .int .i64 sz]] w fun e w' => e = .returned (.tuple #[.agg #[.string da, .int .i64 da.size, .int .i64 ca, .bool false, .int .i64 fu], .int .i64 0]) ∧ Below w.heap.size w w' := by
  obtain ⟨g1, g2, g3, g4, g5⟩ := okB_true h
  have hmm := @run_makeMap Try.prog
  have i1 := ins1
  have i2 := ins2
  have i3 := ins3
  have i4 := look2
  have i5 := eq_nil
  have i6 := eq_func
  have e0 : (fu != 0) = true := by simp; omega
  have e1 : (fu == 0) = false := by simp; omega
  have e2 : decide (0 < fu) = false := by simp; omega
  go_enter Try.func8, Try.ntmps8
  go_wp2_with (first | (go_at_call 15; refine (check15_ok da sy ca false fu _ h).mono ?_; rintro e w1 ⟨rfl, hb⟩; obtain ⟨hc, hf⟩ := bcell hb; obtain ⟨hz0, hz1, hz2⟩ := size3 hb) | (go_at_call 20; refine (sync20_on' w1.heap.size da sy ca false fu 2 sd sz _ (plate_new _ _ _)).mono ?_; rintro e w2 ⟨rfl, hl, hp⟩; obtain ⟨hc2, hf2⟩ := bcellB hl; obtain ⟨c0, c1, c2, c3, c4, c5, c6, c7, hfp⟩ := plate_cells _ _ _ _ _ _ _ _ _ _ hp; have hq := lt_of_block hp))
  refine bodyPost_ret (v := .tuple #[.agg #[.string da, .int .i64 da.size, .int .i64 ca, .bool false, .int .i64 fu], .int .i64 0]) (by simp [results, Try.results8, go_sem, hc, hc2, hz0, hz1, hz2, hq]) rfl ⟨rfl, ?_⟩
  have hb2 := (((Below.refl w.heap.size w).alloc (Nat.le_refl _) _).alloc (by simp) _).alloc (by simp; omega) _ |>.trans (hb.mono (by simp; omega))
  have hb3 := (Below.alloc (Below.alloc hb2 (by omega) _) (by simp; omega) _).trans (hl.mono (Nat.le_of_lt hz0))
  repeat (first | with_reducible exact hb3 | refine Below.setCell ?_ (by first | omega | (simp; omega)) _)

set_option maxHeartbeats 1000000 in
theorem do8_cn (h : okB da sy ca = true) (h1 : 0 ≤ sz) (h2 : sz ≤ (da.size : Int)) (hu : fu < 0) :
    Calls Try.prog 8 #[.agg #[.string da, .int .i64 sy, .int .i64 ca, .bool false, .int .i64 fu], .agg #[.int .u8 3, .string sd, .int .i64 sz]] w fun e w' => e = .returned (.tuple #[.agg #[.string (da.extract 0 sz.toNat), .int .i64 sz, .int .i64 ca, .bool false, .int .i64 fu], .int .i64 0]) ∧ Below w.heap.size w w' := by
  obtain ⟨g1, g2, g3, g4, g5⟩ := okB_true h
  have hmm := @run_makeMap Try.prog
  have i1 := ins1
  have i2 := ins2
  have i3 := ins3
  have i4 := look3
  have i5 := eq_nil
  have i6 := eq_func
  have e0 : (fu != 0) = true := by simp; omega
  have e1 : (fu == 0) = false := by simp; omega
  have e2 : decide (0 < fu) = false := by simp; omega
  go_enter Try.func8, Try.ntmps8
  go_wp2_with (first | (go_at_call 15; refine (check15_ok da sy ca false fu _ h).mono ?_; rintro e w1 ⟨rfl, hb⟩; obtain ⟨hc, hf⟩ := bcell hb; obtain ⟨hz0, hz1, hz2⟩ := size3 hb) | (go_at_call 21; refine (cut21_on' w1.heap.size da sy ca false fu 3 sd sz _ (plate_new _ _ _) h1 h2).mono ?_; rintro e w2 ⟨rfl, hl, hp⟩; obtain ⟨hc2, hf2⟩ := bcellB hl; obtain ⟨c0, c1, c2, c3, c4, c5, c6, c7, hfp⟩ := plate_cells _ _ _ _ _ _ _ _ _ _ hp; have hq := lt_of_block hp))
  refine bodyPost_ret (v := .tuple #[.agg #[.string (da.extract 0 sz.toNat), .int .i64 sz, .int .i64 ca, .bool false, .int .i64 fu], .int .i64 0]) (by simp [results, Try.results8, go_sem, hc, hc2, hz0, hz1, hz2, hq]) rfl ⟨rfl, ?_⟩
  have hb2 := (((Below.refl w.heap.size w).alloc (Nat.le_refl _) _).alloc (by simp) _).alloc (by simp; omega) _ |>.trans (hb.mono (by simp; omega))
  have hb3 := (Below.alloc (Below.alloc hb2 (by omega) _) (by simp; omega) _).trans (hl.mono (Nat.le_of_lt hz0))
  repeat (first | with_reducible exact hb3 | refine Below.setCell ?_ (by first | omega | (simp; omega)) _)

end
end Go.Proofs.Ythfmmkabfndbfaa
