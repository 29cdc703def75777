/- DiskGrows: the walk. -/
import Derived.Test.YthfmmkabfndbfaaDi
namespace Go.Proofs.Ythfmmkabfndbfaa
open Go.RowKit
set_option linter.unusedSimpArgs false
set_option linter.unusedVariables false


/-- a call whose results are a disk and an error -/
def DoAt (da : ByteArray) (sy ca : Int) (dn : Bool) (fu k : Int) (sd : ByteArray) (sz : Int) (ada : ByteArray) (asy aca : Int) (adn : Bool) (afu ae : Int) : Prop := ∀ w, Calls Try.prog 8 #[.agg #[.string da, .int .i64 sy, .int .i64 ca, .bool dn, .int .i64 fu], .agg #[.int .u8 k, .string sd, .int .i64 sz]] w fun e w' => e = .returned (.tuple #[.agg #[.string ada, .int .i64 asy, .int .i64 aca, .bool adn, .int .i64 afu], .int .i64 ae]) ∧ Below w.heap.size w w'
def CrashAt (da : ByteArray) (sy ca : Int) (dn : Bool) (fu keep : Int) (ada : ByteArray) (asy aca : Int) (adn : Bool) (afu ae : Int) : Prop := ∀ w, Calls Try.prog 12 #[.agg #[.string da, .int .i64 sy, .int .i64 ca, .bool dn, .int .i64 fu], .int .i64 keep] w fun e w' => e = .returned (.tuple #[.agg #[.string ada, .int .i64 asy, .int .i64 aca, .bool adn, .int .i64 afu], .int .i64 ae]) ∧ Below w.heap.size w w'
def ReadAt (da : ByteArray) (sy ca : Int) (dn : Bool) (fu : Int) (s : ByteArray) (re : Int) : Prop := ∀ w, Calls Try.prog 10 #[.agg #[.string da, .int .i64 sy, .int .i64 ca, .bool dn, .int .i64 fu]] w fun e w' => e = .returned (.tuple #[.string s, .int .i64 re]) ∧ Below w.heap.size w w'
theorem DoAt.mk {d : Dk} {k : Int} {sd : ByteArray} {sz : Int} {a : Dk} {ae : Int} (h : doR d k sd sz = (a, ae)) (hk : 0 ≤ k) (hu : d.fu ≤ 9223372036854775807) : DoAt d.da d.sy d.ca d.dn d.fu k sd sz a.da a.sy a.ca a.dn a.fu ae := fun w => by
  have := do8_any d k sd sz w hk hu; rw [h] at this; exact this
theorem CrashAt.mk {d : Dk} {keep : Int} {a : Dk} {ae : Int} (h : crashR d keep = (a, ae)) : CrashAt d.da d.sy d.ca d.dn d.fu keep a.da a.sy a.ca a.dn a.fu ae := fun w => by
  have := crash12_any d keep w; rw [h] at this; exact this
theorem ReadAt.mk {d : Dk} {s : ByteArray} {re : Int} (h : readS d = s) (h2 : readE d = re) : ReadAt d.da d.sy d.ca d.dn d.fu s re := fun w => by
  have := read10_any d.da d.sy d.ca d.dn d.fu w; subst h h2; exact this
theorem drewH {W : World} {b : Nat} {o : Obj} (h : W.heap[b]? = some o) : W.drew.heap[b]? = some o := h
section
variable (da : ByteArray) (sy ca : Int) (dn : Bool) (fu : Int) (s : ByteArray) (size keep : Int) (w : World)

set_option maxHeartbeats 2000000 in
set_option maxRecDepth 100000 in
theorem grows_bad (R1 : ReadAt da sy ca dn (-1) ⟨#[]⟩ 6) (C1 : DoAt da sy ca dn (-1) 1 s 0 ⟨#[]⟩ 0 0 false 0 6) :
    Calls Try.prog 6 #[.agg #[.string da, .int .i64 sy, .int .i64 ca, .bool dn, .int .i64 fu], .string s, .int .i64 size, .int .i64 keep] w fun e w' => e = .returned (.bool true) ∧ Below w.heap.size w w' := by
  go_enter Try.func6, Try.ntmps6
  go_wp2_with fail
  refine (lives14 _).mono ?_
  rintro e w1 ⟨rfl, hb⟩
  have hD := below_call (B := w.heap.size) (Below.refl w.heap.size w) (Nat.le_refl _) hb
  have hT0 := blk hb (heap_last w _)
  have hT := plate_set hT0 4 (.int .i64 (-1))
  simp at hT
  clear hb
  obtain ⟨t0, t1, t2, t3, t4, t5⟩ := cells5 hT0
  go_wp2_with fail
  refine (R1 _).mono ?_
  rintro e w2 ⟨rfl, hb⟩
  replace hD := below_call0 (hD.setCell (p := ⟨w.heap.size, 4, none⟩) (Nat.le_refl _) _) (by have := hD.size; simp; omega) hb
  replace hT := blk hb hT
  clear hb t0 t1 t2 t3 t4 t5 hT0
  have lT := lt_of_block hT
  obtain ⟨t0, t1, t2, t3, t4, t5⟩ := cells5 hT
  go_wp2_with fail
  go_cut [11, 12] (fun s11 s12 wx => s12 = .int .i64 (6) ∧ Below w.heap.size w wx ∧ wx.heap[w.heap.size]? = some (.cells #[.string da, .int .i64 sy, .int .i64 ca, .bool dn, .int .i64 (-1)] 23 (0, 0)) ∧ ∃ g : Nat, s11 = .pointer (some ⟨g, 0, none⟩) ∧ w.heap.size < g ∧ wx.heap[g]? = some (.cells #[.string ⟨#[]⟩, .int .i64 0, .int .i64 0, .bool false, .int .i64 0] 23 (0, 0)))
  case first =>
    go_region_with (first | (go_at_call 17; refine (write17 _ _).mono ?_; rintro e w3 ⟨rfl, rfl⟩) | (go_at_call 8; refine (C1 _).mono ?_; rintro e w4 ⟨rfl, hb⟩; obtain ⟨hc4, hf4⟩ := bcell hb))
    all_goals (go_wp2_with fail; go_meet)
    all_goals (have hd4 : Below w.heap.size w w4 := (by refine Below.trans ?_ (hb.mono (by simp; omega)); repeat (first | with_reducible exact hD | with_reducible refine Below.drew ?_ | refine Below.alloc ?_ (by first | omega | (simp; omega)) _)))
    all_goals (have ht4 : w4.heap[w.heap.size]? = _ := blk hb (by first | with_reducible exact drewH (blk_alloc hT) | with_reducible exact drewH (blk_alloc (blk_alloc hT))))
    all_goals (have l4 : w.heap.size < w4.heap.size := lt_of_block ht4)
    all_goals (refine ⟨rfl, ?_, ?_, _, rfl, ?_, ?_⟩)
    all_goals first
      | with_reducible exact hd4.alloc hd4.size _
      | with_reducible exact below_set5 hd4 (by omega)
      | with_reducible exact blk_alloc ht4
      | with_reducible exact blk_set5 ht4 (by omega)
      | with_reducible exact heap_last _ _
      | omega
      | (with_reducible refine set5 (a0 := .string ⟨#[]⟩) (a1 := .int .i64 0) (a2 := .int .i64 0) (a3 := .bool false) (a4 := .int .i64 0) ?_; first | with_reducible exact blk hb (drewH (heap_last _ _)) | with_reducible exact blk hb (drewH (blk_alloc (heap_last _ _))) | with_reducible exact blk hb (drewH (heap_last1 _ _ _)))
  case rest =>
    obtain ⟨rfl, hX, hT2, g, rfl, hg, hA⟩ := hcut
    clear hD hT t0 t1 t2 t3 t4 t5 lT
    have lT := lt_of_block hT2
    have lA := lt_of_block hA
    obtain ⟨t0, t1, t2, t3, t4, t5⟩ := cells5 hT2
    obtain ⟨a0, a1, a2, a3, a4, a5⟩ := cells5 hA
    go_wp2
    go_ret
    exact ⟨rfl, hX⟩

set_option maxHeartbeats 2000000 in
set_option maxRecDepth 100000 in
theorem grows_down (R1 : ReadAt da sy ca true (-1) ⟨#[]⟩ 12) (C1 : DoAt da sy ca true (-1) 1 s 0 da sy ca true (-1) 12) :
    Calls Try.prog 6 #[.agg #[.string da, .int .i64 sy, .int .i64 ca, .bool true, .int .i64 fu], .string s, .int .i64 size, .int .i64 keep] w fun e w' => e = .returned (.bool true) ∧ Below w.heap.size w w' := by
  go_enter Try.func6, Try.ntmps6
  go_wp2_with fail
  refine (lives14 _).mono ?_
  rintro e w1 ⟨rfl, hb⟩
  have hD := below_call (B := w.heap.size) (Below.refl w.heap.size w) (Nat.le_refl _) hb
  have hT0 := blk hb (heap_last w _)
  have hT := plate_set hT0 4 (.int .i64 (-1))
  simp at hT
  clear hb
  obtain ⟨t0, t1, t2, t3, t4, t5⟩ := cells5 hT0
  go_wp2_with fail
  refine (R1 _).mono ?_
  rintro e w2 ⟨rfl, hb⟩
  replace hD := below_call0 (hD.setCell (p := ⟨w.heap.size, 4, none⟩) (Nat.le_refl _) _) (by have := hD.size; simp; omega) hb
  replace hT := blk hb hT
  clear hb t0 t1 t2 t3 t4 t5 hT0
  have lT := lt_of_block hT
  obtain ⟨t0, t1, t2, t3, t4, t5⟩ := cells5 hT
  go_wp2_with fail
  go_cut [11, 12] (fun s11 s12 wx => s12 = .int .i64 (12) ∧ Below w.heap.size w wx ∧ wx.heap[w.heap.size]? = some (.cells #[.string da, .int .i64 sy, .int .i64 ca, .bool true, .int .i64 (-1)] 23 (0, 0)) ∧ ∃ g : Nat, s11 = .pointer (some ⟨g, 0, none⟩) ∧ w.heap.size < g ∧ wx.heap[g]? = some (.cells #[.string da, .int .i64 sy, .int .i64 ca, .bool true, .int .i64 (-1)] 23 (0, 0)))
  case first =>
    go_region_with (first | (go_at_call 17; refine (write17 _ _).mono ?_; rintro e w3 ⟨rfl, rfl⟩) | (go_at_call 8; refine (C1 _).mono ?_; rintro e w4 ⟨rfl, hb⟩; obtain ⟨hc4, hf4⟩ := bcell hb))
    all_goals (go_wp2_with fail; go_meet)
    all_goals (have hd4 : Below w.heap.size w w4 := (by refine Below.trans ?_ (hb.mono (by simp; omega)); repeat (first | with_reducible exact hD | with_reducible refine Below.drew ?_ | refine Below.alloc ?_ (by first | omega | (simp; omega)) _)))
    all_goals (have ht4 : w4.heap[w.heap.size]? = _ := blk hb (by first | with_reducible exact drewH (blk_alloc hT) | with_reducible exact drewH (blk_alloc (blk_alloc hT))))
    all_goals (have l4 : w.heap.size < w4.heap.size := lt_of_block ht4)
    all_goals (refine ⟨rfl, ?_, ?_, _, rfl, ?_, ?_⟩)
    all_goals first
      | with_reducible exact hd4.alloc hd4.size _
      | with_reducible exact below_set5 hd4 (by omega)
      | with_reducible exact blk_alloc ht4
      | with_reducible exact blk_set5 ht4 (by omega)
      | with_reducible exact heap_last _ _
      | omega
      | (with_reducible refine set5 (a0 := .string ⟨#[]⟩) (a1 := .int .i64 0) (a2 := .int .i64 0) (a3 := .bool false) (a4 := .int .i64 0) ?_; first | with_reducible exact blk hb (drewH (heap_last _ _)) | with_reducible exact blk hb (drewH (blk_alloc (heap_last _ _))) | with_reducible exact blk hb (drewH (heap_last1 _ _ _)))
  case rest =>
    obtain ⟨rfl, hX, hT2, g, rfl, hg, hA⟩ := hcut
    clear hD hT t0 t1 t2 t3 t4 t5 lT
    have lT := lt_of_block hT2
    have lA := lt_of_block hA
    obtain ⟨t0, t1, t2, t3, t4, t5⟩ := cells5 hT2
    obtain ⟨a0, a1, a2, a3, a4, a5⟩ := cells5 hA
    go_wp2
    go_ret
    exact ⟨rfl, hX⟩

set_option maxHeartbeats 2000000 in
set_option maxRecDepth 100000 in
theorem grows_fn (g3 : (da.size : Int) ≤ 262144) (R1 : ReadAt da sy ca false (-1) da 0) (C1 : DoAt da sy ca false (-1) 1 s 0 da sy ca false (-1) 8) (C2 : DoAt da sy ca false (-1) 3 ⟨#[]⟩ size da sy ca false (-1) 2) (kd : ByteArray) (ks kc : Int) (C3 : CrashAt da sy ca false (-1) keep kd ks kc false (-1) 0) (C4 : CrashAt kd ks kc false (-1) 0 kd ks kc false (-1) 0) :
    Calls Try.prog 6 #[.agg #[.string da, .int .i64 sy, .int .i64 ca, .bool false, .int .i64 fu], .string s, .int .i64 size, .int .i64 keep] w fun e w' => e = .returned (.bool true) ∧ Below w.heap.size w w' := by
  go_enter Try.func6, Try.ntmps6
  go_wp2_with fail
  refine (lives14 _).mono ?_
  rintro e w1 ⟨rfl, hb⟩
  have hD := below_call (B := w.heap.size) (Below.refl w.heap.size w) (Nat.le_refl _) hb
  have hT0 := blk hb (heap_last w _)
  have hT := plate_set hT0 4 (.int .i64 (-1))
  simp at hT
  clear hb
  obtain ⟨t0, t1, t2, t3, t4, t5⟩ := cells5 hT0
  go_wp2_with fail
  refine (R1 _).mono ?_
  rintro e w2 ⟨rfl, hb⟩
  replace hD := below_call0 (hD.setCell (p := ⟨w.heap.size, 4, none⟩) (Nat.le_refl _) _) (by have := hD.size; simp; omega) hb
  replace hT := blk hb hT
  clear hb t0 t1 t2 t3 t4 t5 hT0
  have lT := lt_of_block hT
  obtain ⟨t0, t1, t2, t3, t4, t5⟩ := cells5 hT
  go_wp2_with fail
  go_cut [11, 12] (fun s11 s12 wx => s12 = .int .i64 (8) ∧ Below w.heap.size w wx ∧ wx.heap[w.heap.size]? = some (.cells #[.string da, .int .i64 sy, .int .i64 ca, .bool false, .int .i64 (-1)] 23 (0, 0)) ∧ ∃ g : Nat, s11 = .pointer (some ⟨g, 0, none⟩) ∧ w.heap.size < g ∧ wx.heap[g]? = some (.cells #[.string da, .int .i64 sy, .int .i64 ca, .bool false, .int .i64 (-1)] 23 (0, 0)))
  case first =>
    go_region_with (first | (go_at_call 17; refine (write17 _ _).mono ?_; rintro e w3 ⟨rfl, rfl⟩) | (go_at_call 8; refine (C1 _).mono ?_; rintro e w4 ⟨rfl, hb⟩; obtain ⟨hc4, hf4⟩ := bcell hb))
    all_goals (go_wp2_with fail; go_meet)
    all_goals (have hd4 : Below w.heap.size w w4 := (by refine Below.trans ?_ (hb.mono (by simp; omega)); repeat (first | with_reducible exact hD | with_reducible refine Below.drew ?_ | refine Below.alloc ?_ (by first | omega | (simp; omega)) _)))
    all_goals (have ht4 : w4.heap[w.heap.size]? = _ := blk hb (by first | with_reducible exact drewH (blk_alloc hT) | with_reducible exact drewH (blk_alloc (blk_alloc hT))))
    all_goals (have l4 : w.heap.size < w4.heap.size := lt_of_block ht4)
    all_goals (refine ⟨rfl, ?_, ?_, _, rfl, ?_, ?_⟩)
    all_goals first
      | with_reducible exact hd4.alloc hd4.size _
      | with_reducible exact below_set5 hd4 (by omega)
      | with_reducible exact blk_alloc ht4
      | with_reducible exact blk_set5 ht4 (by omega)
      | with_reducible exact heap_last _ _
      | omega
      | (with_reducible refine set5 (a0 := .string ⟨#[]⟩) (a1 := .int .i64 0) (a2 := .int .i64 0) (a3 := .bool false) (a4 := .int .i64 0) ?_; first | with_reducible exact blk hb (drewH (heap_last _ _)) | with_reducible exact blk hb (drewH (blk_alloc (heap_last _ _))) | with_reducible exact blk hb (drewH (heap_last1 _ _ _)))
  case rest =>
    obtain ⟨rfl, hX, hT2, g, rfl, hg, hA⟩ := hcut
    clear hD hT t0 t1 t2 t3 t4 t5 lT
    have lT := lt_of_block hT2
    have lA := lt_of_block hA
    obtain ⟨t0, t1, t2, t3, t4, t5⟩ := cells5 hT2
    obtain ⟨a0, a1, a2, a3, a4, a5⟩ := cells5 hA
    go_wp2_with fail
    refine (C2 _).mono ?_
    rintro e w5 ⟨rfl, hb⟩
    replace hX := below_call0 hX hX.size hb
    replace hT2 := blk hb hT2
    clear hb t0 t1 t2 t3 t4 t5 a0 a1 a2 a3 a4 a5 lA lT
    have hB := heap_last w5 (.cells #[.string da, .int .i64 sy, .int .i64 ca, .bool false, .int .i64 (-1)] 23)
    replace hX := hX.alloc hX.size (.cells #[.string da, .int .i64 sy, .int .i64 ca, .bool false, .int .i64 (-1)] 23)
    replace hT2 := blk_alloc (O := .cells #[.string da, .int .i64 sy, .int .i64 ca, .bool false, .int .i64 (-1)] 23) hT2
    go_wp2_with fail
    generalize w5.alloc (.cells #[.string da, .int .i64 sy, .int .i64 ca, .bool false, .int .i64 (-1)] 23) = W at *
    obtain ⟨t0, t1, t2, t3, t4, t5⟩ := cells5 hT2
    obtain ⟨b0, b1, b2, b3, b4, b5⟩ := cells5 hB
    have lT := lt_of_block hT2
    go_quiet (fail)
    go_wp2_with fail
    refine (C3 _).mono ?_
    rintro e w6 ⟨rfl, hb⟩
    replace hX := below_call0 (below_drewN' hX _) hX.size hb
    clear hb t0 t1 t2 t3 t4 t5 b0 b1 b2 b3 b4 b5 lT
    go_wp2_with fail
    refine (C4 _).mono ?_
    rintro e w7 ⟨rfl, hb⟩
    have hC := blk hb (heap_last w6 _)
    replace hX := below_call hX hX.size hb
    have lC := lt_of_block hC
    obtain ⟨t0, t1, t2, t3, t4, t5⟩ := cells5 hC
    go_wp2
    go_ret
    exact ⟨rfl, hX.alloc hX.size _⟩

set_option maxHeartbeats 2000000 in
set_option maxRecDepth 100000 in
theorem grows_fc (g3 : (da.size : Int) ≤ 262144) (R1 : ReadAt da sy ca false (-1) da 0) (C1 : DoAt da sy ca false (-1) 1 s 0 da sy ca false (-1) 8) (h1 : 0 ≤ size) (h2 : size ≤ (da.size : Int)) (C2 : DoAt da sy ca false (-1) 3 ⟨#[]⟩ size (da.extract 0 size.toNat) size ca false (-1) 0) (kd : ByteArray) (ks kc : Int) (C3 : CrashAt da sy ca false (-1) keep kd ks kc false (-1) 0) (C4 : CrashAt kd ks kc false (-1) 0 kd ks kc false (-1) 0) :
    Calls Try.prog 6 #[.agg #[.string da, .int .i64 sy, .int .i64 ca, .bool false, .int .i64 fu], .string s, .int .i64 size, .int .i64 keep] w fun e w' => e = .returned (.bool true) ∧ Below w.heap.size w w' := by
  have e1 : decide (size < 0) = false := by simp; omega
  have e2 : decide ((da.size : Int) < size) = false := by simp; omega
  go_enter Try.func6, Try.ntmps6
  go_wp2_with fail
  refine (lives14 _).mono ?_
  rintro e w1 ⟨rfl, hb⟩
  have hD := below_call (B := w.heap.size) (Below.refl w.heap.size w) (Nat.le_refl _) hb
  have hT0 := blk hb (heap_last w _)
  have hT := plate_set hT0 4 (.int .i64 (-1))
  simp at hT
  clear hb
  obtain ⟨t0, t1, t2, t3, t4, t5⟩ := cells5 hT0
  go_wp2_with fail
  refine (R1 _).mono ?_
  rintro e w2 ⟨rfl, hb⟩
  replace hD := below_call0 (hD.setCell (p := ⟨w.heap.size, 4, none⟩) (Nat.le_refl _) _) (by have := hD.size; simp; omega) hb
  replace hT := blk hb hT
  clear hb t0 t1 t2 t3 t4 t5 hT0
  have lT := lt_of_block hT
  obtain ⟨t0, t1, t2, t3, t4, t5⟩ := cells5 hT
  go_wp2_with fail
  go_cut [11, 12] (fun s11 s12 wx => s12 = .int .i64 (8) ∧ Below w.heap.size w wx ∧ wx.heap[w.heap.size]? = some (.cells #[.string da, .int .i64 sy, .int .i64 ca, .bool false, .int .i64 (-1)] 23 (0, 0)) ∧ ∃ g : Nat, s11 = .pointer (some ⟨g, 0, none⟩) ∧ w.heap.size < g ∧ wx.heap[g]? = some (.cells #[.string da, .int .i64 sy, .int .i64 ca, .bool false, .int .i64 (-1)] 23 (0, 0)))
  case first =>
    go_region_with (first | (go_at_call 17; refine (write17 _ _).mono ?_; rintro e w3 ⟨rfl, rfl⟩) | (go_at_call 8; refine (C1 _).mono ?_; rintro e w4 ⟨rfl, hb⟩; obtain ⟨hc4, hf4⟩ := bcell hb))
    all_goals (go_wp2_with fail; go_meet)
    all_goals (have hd4 : Below w.heap.size w w4 := (by refine Below.trans ?_ (hb.mono (by simp; omega)); repeat (first | with_reducible exact hD | with_reducible refine Below.drew ?_ | refine Below.alloc ?_ (by first | omega | (simp; omega)) _)))
    all_goals (have ht4 : w4.heap[w.heap.size]? = _ := blk hb (by first | with_reducible exact drewH (blk_alloc hT) | with_reducible exact drewH (blk_alloc (blk_alloc hT))))
    all_goals (have l4 : w.heap.size < w4.heap.size := lt_of_block ht4)
    all_goals (refine ⟨rfl, ?_, ?_, _, rfl, ?_, ?_⟩)
    all_goals first
      | with_reducible exact hd4.alloc hd4.size _
      | with_reducible exact below_set5 hd4 (by omega)
      | with_reducible exact blk_alloc ht4
      | with_reducible exact blk_set5 ht4 (by omega)
      | with_reducible exact heap_last _ _
      | omega
      | (with_reducible refine set5 (a0 := .string ⟨#[]⟩) (a1 := .int .i64 0) (a2 := .int .i64 0) (a3 := .bool false) (a4 := .int .i64 0) ?_; first | with_reducible exact blk hb (drewH (heap_last _ _)) | with_reducible exact blk hb (drewH (blk_alloc (heap_last _ _))) | with_reducible exact blk hb (drewH (heap_last1 _ _ _)))
  case rest =>
    obtain ⟨rfl, hX, hT2, g, rfl, hg, hA⟩ := hcut
    clear hD hT t0 t1 t2 t3 t4 t5 lT
    have lT := lt_of_block hT2
    have lA := lt_of_block hA
    obtain ⟨t0, t1, t2, t3, t4, t5⟩ := cells5 hT2
    obtain ⟨a0, a1, a2, a3, a4, a5⟩ := cells5 hA
    go_wp2_with fail
    refine (C2 _).mono ?_
    rintro e w5 ⟨rfl, hb⟩
    replace hX := below_call0 hX hX.size hb
    replace hT2 := blk hb hT2
    clear hb t0 t1 t2 t3 t4 t5 a0 a1 a2 a3 a4 a5 lA lT
    have hB := heap_last w5 (.cells #[.string (da.extract 0 size.toNat), .int .i64 size, .int .i64 ca, .bool false, .int .i64 (-1)] 23)
    replace hX := hX.alloc hX.size (.cells #[.string (da.extract 0 size.toNat), .int .i64 size, .int .i64 ca, .bool false, .int .i64 (-1)] 23)
    replace hT2 := blk_alloc (O := .cells #[.string (da.extract 0 size.toNat), .int .i64 size, .int .i64 ca, .bool false, .int .i64 (-1)] 23) hT2
    go_wp2_with fail
    generalize w5.alloc (.cells #[.string (da.extract 0 size.toNat), .int .i64 size, .int .i64 ca, .bool false, .int .i64 (-1)] 23) = W at *
    obtain ⟨t0, t1, t2, t3, t4, t5⟩ := cells5 hT2
    obtain ⟨b0, b1, b2, b3, b4, b5⟩ := cells5 hB
    have lT := lt_of_block hT2
    go_quiet (fail)
    go_wp2_with fail
    refine (C3 _).mono ?_
    rintro e w6 ⟨rfl, hb⟩
    replace hX := below_call0 (below_drewN' hX _) hX.size hb
    clear hb t0 t1 t2 t3 t4 t5 b0 b1 b2 b3 b4 b5 lT
    go_wp2_with fail
    refine (C4 _).mono ?_
    rintro e w7 ⟨rfl, hb⟩
    have hC := blk hb (heap_last w6 _)
    replace hX := below_call hX hX.size hb
    have lC := lt_of_block hC
    obtain ⟨t0, t1, t2, t3, t4, t5⟩ := cells5 hC
    go_wp2
    go_ret
    exact ⟨rfl, hX.alloc hX.size _⟩

set_option maxHeartbeats 2000000 in
set_option maxRecDepth 100000 in
theorem grows_wn (g3 : (da.size : Int) ≤ 262144) (R1 : ReadAt da sy ca false (-1) da 0) (hs : da.size + s.size ≤ 262144) (C1 : DoAt da sy ca false (-1) 1 s 0 (da ++ s) sy ca false (-1) 0) (R2 : ReadAt (da ++ s) sy ca false (-1) (da ++ s) 0) (C2 : DoAt da sy ca false (-1) 3 ⟨#[]⟩ size da sy ca false (-1) 2) (kd : ByteArray) (ks kc : Int) (C3 : CrashAt da sy ca false (-1) keep kd ks kc false (-1) 0) (C4 : CrashAt kd ks kc false (-1) 0 kd ks kc false (-1) 0) :
    Calls Try.prog 6 #[.agg #[.string da, .int .i64 sy, .int .i64 ca, .bool false, .int .i64 fu], .string s, .int .i64 size, .int .i64 keep] w fun e w' => e = .returned (.bool true) ∧ Below w.heap.size w w' := by
  go_enter Try.func6, Try.ntmps6
  go_wp2_with fail
  refine (lives14 _).mono ?_
  rintro e w1 ⟨rfl, hb⟩
  have hD := below_call (B := w.heap.size) (Below.refl w.heap.size w) (Nat.le_refl _) hb
  have hT0 := blk hb (heap_last w _)
  have hT := plate_set hT0 4 (.int .i64 (-1))
  simp at hT
  clear hb
  obtain ⟨t0, t1, t2, t3, t4, t5⟩ := cells5 hT0
  go_wp2_with fail
  refine (R1 _).mono ?_
  rintro e w2 ⟨rfl, hb⟩
  replace hD := below_call0 (hD.setCell (p := ⟨w.heap.size, 4, none⟩) (Nat.le_refl _) _) (by have := hD.size; simp; omega) hb
  replace hT := blk hb hT
  clear hb t0 t1 t2 t3 t4 t5 hT0
  have lT := lt_of_block hT
  obtain ⟨t0, t1, t2, t3, t4, t5⟩ := cells5 hT
  go_wp2_with fail
  go_cut [11, 12] (fun s11 s12 wx => s12 = .int .i64 (0) ∧ Below w.heap.size w wx ∧ wx.heap[w.heap.size]? = some (.cells #[.string da, .int .i64 sy, .int .i64 ca, .bool false, .int .i64 (-1)] 23 (0, 0)) ∧ ∃ g : Nat, s11 = .pointer (some ⟨g, 0, none⟩) ∧ w.heap.size < g ∧ wx.heap[g]? = some (.cells #[.string (da ++ s), .int .i64 sy, .int .i64 ca, .bool false, .int .i64 (-1)] 23 (0, 0)))
  case first =>
    go_region_with (first | (go_at_call 17; refine (write17 _ _).mono ?_; rintro e w3 ⟨rfl, rfl⟩) | (go_at_call 8; refine (C1 _).mono ?_; rintro e w4 ⟨rfl, hb⟩; obtain ⟨hc4, hf4⟩ := bcell hb))
    all_goals (go_wp2_with fail; go_meet)
    all_goals (have hd4 : Below w.heap.size w w4 := (by refine Below.trans ?_ (hb.mono (by simp; omega)); repeat (first | with_reducible exact hD | with_reducible refine Below.drew ?_ | refine Below.alloc ?_ (by first | omega | (simp; omega)) _)))
    all_goals (have ht4 : w4.heap[w.heap.size]? = _ := blk hb (by first | with_reducible exact drewH (blk_alloc hT) | with_reducible exact drewH (blk_alloc (blk_alloc hT))))
    all_goals (have l4 : w.heap.size < w4.heap.size := lt_of_block ht4)
    all_goals (refine ⟨rfl, ?_, ?_, _, rfl, ?_, ?_⟩)
    all_goals first
      | with_reducible exact hd4.alloc hd4.size _
      | with_reducible exact below_set5 hd4 (by omega)
      | with_reducible exact blk_alloc ht4
      | with_reducible exact blk_set5 ht4 (by omega)
      | with_reducible exact heap_last _ _
      | omega
      | (with_reducible refine set5 (a0 := .string ⟨#[]⟩) (a1 := .int .i64 0) (a2 := .int .i64 0) (a3 := .bool false) (a4 := .int .i64 0) ?_; first | with_reducible exact blk hb (drewH (heap_last _ _)) | with_reducible exact blk hb (drewH (blk_alloc (heap_last _ _))) | with_reducible exact blk hb (drewH (heap_last1 _ _ _)))
  case rest =>
    obtain ⟨rfl, hX, hT2, g, rfl, hg, hA⟩ := hcut
    clear hD hT t0 t1 t2 t3 t4 t5 lT
    have lT := lt_of_block hT2
    have lA := lt_of_block hA
    obtain ⟨t0, t1, t2, t3, t4, t5⟩ := cells5 hT2
    obtain ⟨a0, a1, a2, a3, a4, a5⟩ := cells5 hA
    go_wp2_with fail
    refine (R2 _).mono ?_
    rintro e w3 ⟨rfl, hb⟩
    replace hX := below_call0 hX hX.size hb
    replace hT2 := blk hb hT2
    replace hA := blk hb hA
    clear hb t0 t1 t2 t3 t4 t5 a0 a1 a2 a3 a4 a5 lT lA
    have lT := lt_of_block hT2
    obtain ⟨t0, t1, t2, t3, t4, t5⟩ := cells5 hT2
    go_wp2_with fail
    refine (C2 _).mono ?_
    rintro e w5 ⟨rfl, hb⟩
    replace hX := below_call0 hX hX.size hb
    replace hT2 := blk hb hT2
    clear hb t0 t1 t2 t3 t4 t5 lT
    have hB := heap_last w5 (.cells #[.string da, .int .i64 sy, .int .i64 ca, .bool false, .int .i64 (-1)] 23)
    replace hX := hX.alloc hX.size (.cells #[.string da, .int .i64 sy, .int .i64 ca, .bool false, .int .i64 (-1)] 23)
    replace hT2 := blk_alloc (O := .cells #[.string da, .int .i64 sy, .int .i64 ca, .bool false, .int .i64 (-1)] 23) hT2
    go_wp2_with fail
    generalize w5.alloc (.cells #[.string da, .int .i64 sy, .int .i64 ca, .bool false, .int .i64 (-1)] 23) = W at *
    obtain ⟨t0, t1, t2, t3, t4, t5⟩ := cells5 hT2
    obtain ⟨b0, b1, b2, b3, b4, b5⟩ := cells5 hB
    have lT := lt_of_block hT2
    go_quiet (fail)
    go_wp2_with fail
    refine (C3 _).mono ?_
    rintro e w6 ⟨rfl, hb⟩
    replace hX := below_call0 (below_drewN' hX _) hX.size hb
    clear hb t0 t1 t2 t3 t4 t5 b0 b1 b2 b3 b4 b5 lT
    go_wp2_with fail
    refine (C4 _).mono ?_
    rintro e w7 ⟨rfl, hb⟩
    have hC := blk hb (heap_last w6 _)
    replace hX := below_call hX hX.size hb
    have lC := lt_of_block hC
    obtain ⟨t0, t1, t2, t3, t4, t5⟩ := cells5 hC
    go_wp2
    go_ret
    exact ⟨rfl, hX.alloc hX.size _⟩

set_option maxHeartbeats 2000000 in
set_option maxRecDepth 100000 in
theorem grows_wc (g3 : (da.size : Int) ≤ 262144) (R1 : ReadAt da sy ca false (-1) da 0) (hs : da.size + s.size ≤ 262144) (C1 : DoAt da sy ca false (-1) 1 s 0 (da ++ s) sy ca false (-1) 0) (R2 : ReadAt (da ++ s) sy ca false (-1) (da ++ s) 0) (h1 : 0 ≤ size) (h2 : size ≤ (da.size : Int)) (C2 : DoAt da sy ca false (-1) 3 ⟨#[]⟩ size (da.extract 0 size.toNat) size ca false (-1) 0) (kd : ByteArray) (ks kc : Int) (C3 : CrashAt da sy ca false (-1) keep kd ks kc false (-1) 0) (C4 : CrashAt kd ks kc false (-1) 0 kd ks kc false (-1) 0) :
    Calls Try.prog 6 #[.agg #[.string da, .int .i64 sy, .int .i64 ca, .bool false, .int .i64 fu], .string s, .int .i64 size, .int .i64 keep] w fun e w' => e = .returned (.bool true) ∧ Below w.heap.size w w' := by
  have e1 : decide (size < 0) = false := by simp; omega
  have e2 : decide ((da.size : Int) < size) = false := by simp; omega
  go_enter Try.func6, Try.ntmps6
  go_wp2_with fail
  refine (lives14 _).mono ?_
  rintro e w1 ⟨rfl, hb⟩
  have hD := below_call (B := w.heap.size) (Below.refl w.heap.size w) (Nat.le_refl _) hb
  have hT0 := blk hb (heap_last w _)
  have hT := plate_set hT0 4 (.int .i64 (-1))
  simp at hT
  clear hb
  obtain ⟨t0, t1, t2, t3, t4, t5⟩ := cells5 hT0
  go_wp2_with fail
  refine (R1 _).mono ?_
  rintro e w2 ⟨rfl, hb⟩
  replace hD := below_call0 (hD.setCell (p := ⟨w.heap.size, 4, none⟩) (Nat.le_refl _) _) (by have := hD.size; simp; omega) hb
  replace hT := blk hb hT
  clear hb t0 t1 t2 t3 t4 t5 hT0
  have lT := lt_of_block hT
  obtain ⟨t0, t1, t2, t3, t4, t5⟩ := cells5 hT
  go_wp2_with fail
  go_cut [11, 12] (fun s11 s12 wx => s12 = .int .i64 (0) ∧ Below w.heap.size w wx ∧ wx.heap[w.heap.size]? = some (.cells #[.string da, .int .i64 sy, .int .i64 ca, .bool false, .int .i64 (-1)] 23 (0, 0)) ∧ ∃ g : Nat, s11 = .pointer (some ⟨g, 0, none⟩) ∧ w.heap.size < g ∧ wx.heap[g]? = some (.cells #[.string (da ++ s), .int .i64 sy, .int .i64 ca, .bool false, .int .i64 (-1)] 23 (0, 0)))
  case first =>
    go_region_with (first | (go_at_call 17; refine (write17 _ _).mono ?_; rintro e w3 ⟨rfl, rfl⟩) | (go_at_call 8; refine (C1 _).mono ?_; rintro e w4 ⟨rfl, hb⟩; obtain ⟨hc4, hf4⟩ := bcell hb))
    all_goals (go_wp2_with fail; go_meet)
    all_goals (have hd4 : Below w.heap.size w w4 := (by refine Below.trans ?_ (hb.mono (by simp; omega)); repeat (first | with_reducible exact hD | with_reducible refine Below.drew ?_ | refine Below.alloc ?_ (by first | omega | (simp; omega)) _)))
    all_goals (have ht4 : w4.heap[w.heap.size]? = _ := blk hb (by first | with_reducible exact drewH (blk_alloc hT) | with_reducible exact drewH (blk_alloc (blk_alloc hT))))
    all_goals (have l4 : w.heap.size < w4.heap.size := lt_of_block ht4)
    all_goals (refine ⟨rfl, ?_, ?_, _, rfl, ?_, ?_⟩)
    all_goals first
      | with_reducible exact hd4.alloc hd4.size _
      | with_reducible exact below_set5 hd4 (by omega)
      | with_reducible exact blk_alloc ht4
      | with_reducible exact blk_set5 ht4 (by omega)
      | with_reducible exact heap_last _ _
      | omega
      | (with_reducible refine set5 (a0 := .string ⟨#[]⟩) (a1 := .int .i64 0) (a2 := .int .i64 0) (a3 := .bool false) (a4 := .int .i64 0) ?_; first | with_reducible exact blk hb (drewH (heap_last _ _)) | with_reducible exact blk hb (drewH (blk_alloc (heap_last _ _))) | with_reducible exact blk hb (drewH (heap_last1 _ _ _)))
  case rest =>
    obtain ⟨rfl, hX, hT2, g, rfl, hg, hA⟩ := hcut
    clear hD hT t0 t1 t2 t3 t4 t5 lT
    have lT := lt_of_block hT2
    have lA := lt_of_block hA
    obtain ⟨t0, t1, t2, t3, t4, t5⟩ := cells5 hT2
    obtain ⟨a0, a1, a2, a3, a4, a5⟩ := cells5 hA
    go_wp2_with fail
    refine (R2 _).mono ?_
    rintro e w3 ⟨rfl, hb⟩
    replace hX := below_call0 hX hX.size hb
    replace hT2 := blk hb hT2
    replace hA := blk hb hA
    clear hb t0 t1 t2 t3 t4 t5 a0 a1 a2 a3 a4 a5 lT lA
    have lT := lt_of_block hT2
    obtain ⟨t0, t1, t2, t3, t4, t5⟩ := cells5 hT2
    go_wp2_with fail
    refine (C2 _).mono ?_
    rintro e w5 ⟨rfl, hb⟩
    replace hX := below_call0 hX hX.size hb
    replace hT2 := blk hb hT2
    clear hb t0 t1 t2 t3 t4 t5 lT
    have hB := heap_last w5 (.cells #[.string (da.extract 0 size.toNat), .int .i64 size, .int .i64 ca, .bool false, .int .i64 (-1)] 23)
    replace hX := hX.alloc hX.size (.cells #[.string (da.extract 0 size.toNat), .int .i64 size, .int .i64 ca, .bool false, .int .i64 (-1)] 23)
    replace hT2 := blk_alloc (O := .cells #[.string (da.extract 0 size.toNat), .int .i64 size, .int .i64 ca, .bool false, .int .i64 (-1)] 23) hT2
    go_wp2_with fail
    generalize w5.alloc (.cells #[.string (da.extract 0 size.toNat), .int .i64 size, .int .i64 ca, .bool false, .int .i64 (-1)] 23) = W at *
    obtain ⟨t0, t1, t2, t3, t4, t5⟩ := cells5 hT2
    obtain ⟨b0, b1, b2, b3, b4, b5⟩ := cells5 hB
    have lT := lt_of_block hT2
    go_quiet (fail)
    go_wp2_with fail
    refine (C3 _).mono ?_
    rintro e w6 ⟨rfl, hb⟩
    replace hX := below_call0 (below_drewN' hX _) hX.size hb
    clear hb t0 t1 t2 t3 t4 t5 b0 b1 b2 b3 b4 b5 lT
    go_wp2_with fail
    refine (C4 _).mono ?_
    rintro e w7 ⟨rfl, hb⟩
    have hC := blk hb (heap_last w6 _)
    replace hX := below_call hX hX.size hb
    have lC := lt_of_block hC
    obtain ⟨t0, t1, t2, t3, t4, t5⟩ := cells5 hC
    go_wp2
    go_ret
    exact ⟨rfl, hX.alloc hX.size _⟩

end
end Go.Proofs.Ythfmmkabfndbfaa
