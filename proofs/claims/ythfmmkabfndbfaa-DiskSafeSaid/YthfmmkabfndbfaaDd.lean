/- The reference's functions, Read and Crash: what each call comes to. -/
import Derived.Test.YthfmmkabfndbfaaDc
namespace Go.Proofs.Ythfmmkabfndbfaa
open Go.RowKit
set_option linter.unusedSimpArgs false
set_option linter.unusedVariables false

section
variable (da : ByteArray) (sy ca : Int) (dn : Bool) (fu : Int) (k : Int) (sd : ByteArray) (sz : Int) (w : World)

theorem three_cells {w w1 : World} {a0 a1 a2 a3 a4 b0 b1 b2 z0 z1 z2 z3 z4 : Value} {S T U : TypeId}
    (hb : Below (((w.alloc (.cells #[a0, a1, a2, a3, a4] S)).alloc (.cells #[b0, b1, b2] T)).alloc (.cells #[z0, z1, z2, z3, z4] U)).heap.size (((w.alloc (.cells #[a0, a1, a2, a3, a4] S)).alloc (.cells #[b0, b1, b2] T)).alloc (.cells #[z0, z1, z2, z3, z4] U)) w1) :
    (w1.cell? ⟨w.heap.size, 0, none⟩ = some a0 ∧ w1.cell? ⟨w.heap.size, 1, none⟩ = some a1 ∧ w1.cell? ⟨w.heap.size, 2, none⟩ = some a2 ∧ w1.cell? ⟨w.heap.size, 3, none⟩ = some a3 ∧ w1.cell? ⟨w.heap.size, 4, none⟩ = some a4 ∧
    w1.cell? ⟨w.heap.size + 1, 0, none⟩ = some b0 ∧ w1.cell? ⟨w.heap.size + 1, 1, none⟩ = some b1 ∧ w1.cell? ⟨w.heap.size + 1, 2, none⟩ = some b2 ∧
    w1.cell? ⟨w.heap.size + 1 + 1, 0, none⟩ = some z0 ∧ w1.cell? ⟨w.heap.size + 1 + 1, 1, none⟩ = some z1 ∧ w1.cell? ⟨w.heap.size + 1 + 1, 2, none⟩ = some z2 ∧ w1.cell? ⟨w.heap.size + 1 + 1, 3, none⟩ = some z3 ∧ w1.cell? ⟨w.heap.size + 1 + 1, 4, none⟩ = some z4) ∧
    (∀ o, w1.frozen? ⟨w.heap.size, o, none⟩ = false) ∧ (∀ o, w1.frozen? ⟨w.heap.size + 1, o, none⟩ = false) ∧ (∀ o, w1.frozen? ⟨w.heap.size + 1 + 1, o, none⟩ = false) := by
  have e0 := hb.block w.heap.size (by simp; omega)
  have e1 := hb.block (w.heap.size + 1) (by simp)
  have e2 := hb.block (w.heap.size + 1 + 1) (by simp)
  rw [Below.heap_alloc _ _ _ (by simp; omega), Below.heap_alloc _ _ _ (by simp), heap_last] at e0
  rw [Below.heap_alloc _ _ _ (by simp)] at e1
  have q1 : ((w.alloc (.cells #[a0, a1, a2, a3, a4] S)).alloc (.cells #[b0, b1, b2] T)).heap[w.heap.size + 1]? = some (.cells #[b0, b1, b2] T) := by simpa using heap_last (w.alloc (.cells #[a0, a1, a2, a3, a4] S)) (.cells #[b0, b1, b2] T)
  have q2 : (((w.alloc (.cells #[a0, a1, a2, a3, a4] S)).alloc (.cells #[b0, b1, b2] T)).alloc (.cells #[z0, z1, z2, z3, z4] U)).heap[w.heap.size + 1 + 1]? = some (.cells #[z0, z1, z2, z3, z4] U) := by simpa using heap_last ((w.alloc (.cells #[a0, a1, a2, a3, a4] S)).alloc (.cells #[b0, b1, b2] T)) (.cells #[z0, z1, z2, z3, z4] U)
  have e1' := e1.trans q1
  have e2' := e2.trans q2
  simp [World.cell?, World.frozen?, e0, e1', e2']

set_option maxHeartbeats 400000 in
theorem read11_any : Calls Try.prog 11 #[.agg #[.string da, .int .i64 sy, .int .i64 ca, .bool dn, .int .i64 fu]] w fun e w' => e = .returned (.tuple #[.string (readS ⟨da, sy, ca, dn, fu⟩), .int .i64 (readE ⟨da, sy, ca, dn, fu⟩)]) ∧ Below w.heap.size w w' := by
  cases h : okB da sy ca
  · go_enter Try.func11, Try.ntmps11
    go_wp2_with (go_at_call 16; refine (check16_no da sy ca dn fu _ h).mono ?_; rintro e w1 ⟨rfl, hb⟩)
    go_ret2
    refine ⟨by simp [readS, readE, h], ?_⟩
    exact ((Below.refl _ _).alloc (Nat.le_refl _) _).trans (hb.mono (by simp))
  · cases dn
    all_goals
      go_enter Try.func11, Try.ntmps11
      go_wp2_with (go_at_call 16; refine (check16_ok da sy ca _ fu _ h).mono ?_; rintro e w1 ⟨rfl, hb⟩; obtain ⟨hc, hf⟩ := bcell hb)
      go_ret2
      refine ⟨by simp [readS, readE, h], ?_⟩
      exact ((Below.refl _ _).alloc (Nat.le_refl _) _).trans (hb.mono (by simp))

set_option maxHeartbeats 400000 in
theorem ref22_full (g1 : 0 ≤ ca) (g2 : ca ≤ 262144) (g3 : (da.size : Int) ≤ ca) (h1 : ca - (da.size : Int) < (sd.size : Int)) :
    Calls Try.prog 22 #[.agg #[.string da, .int .i64 sy, .int .i64 ca, .bool dn, .int .i64 fu], .agg #[.int .u8 1, .string sd, .int .i64 sz]] w fun e w' => e = .returned (.int .i64 8) ∧ Below w.heap.size w w' := by
  have e1 : decide (ca - (da.size : Int) < (sd.size : Int)) = true := by simp; omega
  go_enter Try.func22, Try.ntmps22
  go_wp2
  go_ret
  exact ⟨rfl, ((Below.refl _ _).alloc (Nat.le_refl _) _).alloc (by simp) _⟩

set_option maxHeartbeats 400000 in
theorem ref22_w (g1 : 0 ≤ ca) (g2 : ca ≤ 262144) (g3 : (da.size : Int) ≤ ca) (h1 : (sd.size : Int) ≤ ca - (da.size : Int)) :
    Calls Try.prog 22 #[.agg #[.string da, .int .i64 sy, .int .i64 ca, .bool dn, .int .i64 fu], .agg #[.int .u8 1, .string sd, .int .i64 sz]] w fun e w' => e = .returned (.int .i64 0) ∧ Below w.heap.size w w' := by
  have e1 : decide (ca - (da.size : Int) < (sd.size : Int)) = false := by simp; omega
  go_enter Try.func22, Try.ntmps22
  go_wp2
  go_ret
  exact ⟨rfl, ((Below.refl _ _).alloc (Nat.le_refl _) _).alloc (by simp) _⟩

set_option maxHeartbeats 400000 in
theorem ref22_s  :
    Calls Try.prog 22 #[.agg #[.string da, .int .i64 sy, .int .i64 ca, .bool dn, .int .i64 fu], .agg #[.int .u8 2, .string sd, .int .i64 sz]] w fun e w' => e = .returned (.int .i64 0) ∧ Below w.heap.size w w' := by
  go_enter Try.func22, Try.ntmps22
  go_wp2
  go_ret
  exact ⟨rfl, ((Below.refl _ _).alloc (Nat.le_refl _) _).alloc (by simp) _⟩

set_option maxHeartbeats 400000 in
theorem ref22_neg (h1 : sz < 0) :
    Calls Try.prog 22 #[.agg #[.string da, .int .i64 sy, .int .i64 ca, .bool dn, .int .i64 fu], .agg #[.int .u8 3, .string sd, .int .i64 sz]] w fun e w' => e = .returned (.int .i64 2) ∧ Below w.heap.size w w' := by
  have e1 : decide (sz < 0) = true := by simp; omega
  go_enter Try.func22, Try.ntmps22
  go_wp2
  go_ret
  exact ⟨rfl, ((Below.refl _ _).alloc (Nat.le_refl _) _).alloc (by simp) _⟩

set_option maxHeartbeats 400000 in
theorem ref22_big (h1 : 0 ≤ sz) (h2 : (da.size : Int) < sz) :
    Calls Try.prog 22 #[.agg #[.string da, .int .i64 sy, .int .i64 ca, .bool dn, .int .i64 fu], .agg #[.int .u8 3, .string sd, .int .i64 sz]] w fun e w' => e = .returned (.int .i64 2) ∧ Below w.heap.size w w' := by
  have e1 : decide (sz < 0) = false := by simp; omega
  have e2 : decide ((da.size : Int) < sz) = true := by simp; omega
  go_enter Try.func22, Try.ntmps22
  go_wp2
  go_ret
  exact ⟨rfl, ((Below.refl _ _).alloc (Nat.le_refl _) _).alloc (by simp) _⟩

set_option maxHeartbeats 400000 in
theorem ref22_c (h1 : 0 ≤ sz) (h2 : sz ≤ (da.size : Int)) :
    Calls Try.prog 22 #[.agg #[.string da, .int .i64 sy, .int .i64 ca, .bool dn, .int .i64 fu], .agg #[.int .u8 3, .string sd, .int .i64 sz]] w fun e w' => e = .returned (.int .i64 0) ∧ Below w.heap.size w w' := by
  have e1 : decide (sz < 0) = false := by simp; omega
  have e2 : decide ((da.size : Int) < sz) = false := by simp; omega
  go_enter Try.func22, Try.ntmps22
  go_wp2
  go_ret
  exact ⟨rfl, ((Below.refl _ _).alloc (Nat.le_refl _) _).alloc (by simp) _⟩

set_option maxHeartbeats 1000000 in
theorem do9_bad (h : okB da sy ca = false)  :
    Calls Try.prog 9 #[.agg #[.string da, .int .i64 sy, .int .i64 ca, .bool dn, .int .i64 fu], .agg #[.int .u8 k, .string sd, .int .i64 sz]] w fun e w' => e = .returned (.tuple #[.agg #[.string ⟨#[]⟩, .int .i64 0, .int .i64 0, .bool false, .int .i64 0], .int .i64 6]) ∧ Below w.heap.size w w' := by
  go_enter Try.func9, Try.ntmps9
  go_wp2_with ((go_at_call 16; refine (check16_no da sy ca dn fu _ h).mono ?_; rintro e w1 ⟨rfl, hb⟩; obtain ⟨hc, hf⟩ := bcell hb; obtain ⟨hz0, hz1, hz2⟩ := size3 hb))
  refine bodyPost_ret (v := .tuple #[.agg #[.string ⟨#[]⟩, .int .i64 0, .int .i64 0, .bool false, .int .i64 0], .int .i64 6]) (by simp [results, Try.results9, go_sem, hz0, hz1, hz2, hc]) rfl ⟨rfl, ?_⟩
  have hb2 := (((Below.refl w.heap.size w).alloc (Nat.le_refl _) _).alloc (by simp) _).alloc (by simp; omega) _ |>.trans (hb.mono (by simp; omega))
  have hb3 := hb2
  repeat (first | with_reducible exact hb3 | refine Below.setCell ?_ (by first | omega | (simp; done) | (simp; omega)) _)

set_option maxHeartbeats 1000000 in
theorem do9_type0 (h : okB da sy ca = true)  :
    Calls Try.prog 9 #[.agg #[.string da, .int .i64 sy, .int .i64 ca, .bool dn, .int .i64 fu], .agg #[.int .u8 0, .string sd, .int .i64 sz]] w fun e w' => e = .returned (.tuple #[.agg #[.string da, .int .i64 sy, .int .i64 ca, .bool dn, .int .i64 fu], .int .i64 5]) ∧ Below w.heap.size w w' := by
  obtain ⟨g1, g2, g3, g4, g5⟩ := okB_true h
  go_enter Try.func9, Try.ntmps9
  go_wp2_with ((go_at_call 16; refine (check16_ok da sy ca dn fu _ h).mono ?_; rintro e w1 ⟨rfl, hb⟩; obtain ⟨hc, hf⟩ := bcell hb; obtain ⟨hz0, hz1, hz2⟩ := size3 hb))
  refine bodyPost_ret (v := .tuple #[.agg #[.string da, .int .i64 sy, .int .i64 ca, .bool dn, .int .i64 fu], .int .i64 5]) (by simp [results, Try.results9, go_sem, hz0, hz1, hz2, hc]) rfl ⟨rfl, ?_⟩
  have hb2 := (((Below.refl w.heap.size w).alloc (Nat.le_refl _) _).alloc (by simp) _).alloc (by simp; omega) _ |>.trans (hb.mono (by simp; omega))
  have hb3 := hb2
  repeat (first | with_reducible exact hb3 | refine Below.setCell ?_ (by first | omega | (simp; done) | (simp; omega)) _)

set_option maxHeartbeats 1000000 in
theorem do9_type4 (h : okB da sy ca = true) (hk : 4 ≤ k) :
    Calls Try.prog 9 #[.agg #[.string da, .int .i64 sy, .int .i64 ca, .bool dn, .int .i64 fu], .agg #[.int .u8 k, .string sd, .int .i64 sz]] w fun e w' => e = .returned (.tuple #[.agg #[.string da, .int .i64 sy, .int .i64 ca, .bool dn, .int .i64 fu], .int .i64 5]) ∧ Below w.heap.size w w' := by
  obtain ⟨g1, g2, g3, g4, g5⟩ := okB_true h
  have k1 : decide (k < 1) = false := by simp; omega
  have k4 : decide (4 ≤ k) = true := by simp; omega
  go_enter Try.func9, Try.ntmps9
  go_wp2_with ((go_at_call 16; refine (check16_ok da sy ca dn fu _ h).mono ?_; rintro e w1 ⟨rfl, hb⟩; obtain ⟨hc, hf⟩ := bcell hb; obtain ⟨hz0, hz1, hz2⟩ := size3 hb))
  refine bodyPost_ret (v := .tuple #[.agg #[.string da, .int .i64 sy, .int .i64 ca, .bool dn, .int .i64 fu], .int .i64 5]) (by simp [results, Try.results9, go_sem, hz0, hz1, hz2, hc]) rfl ⟨rfl, ?_⟩
  have hb2 := (((Below.refl w.heap.size w).alloc (Nat.le_refl _) _).alloc (by simp) _).alloc (by simp; omega) _ |>.trans (hb.mono (by simp; omega))
  have hb3 := hb2
  repeat (first | with_reducible exact hb3 | refine Below.setCell ?_ (by first | omega | (simp; done) | (simp; omega)) _)

set_option maxHeartbeats 1000000 in
theorem do9_down1 (h : okB da sy ca = true)  :
    Calls Try.prog 9 #[.agg #[.string da, .int .i64 sy, .int .i64 ca, .bool true, .int .i64 fu], .agg #[.int .u8 1, .string sd, .int .i64 sz]] w fun e w' => e = .returned (.tuple #[.agg #[.string da, .int .i64 sy, .int .i64 ca, .bool true, .int .i64 fu], .int .i64 12]) ∧ Below w.heap.size w w' := by
  obtain ⟨g1, g2, g3, g4, g5⟩ := okB_true h
  go_enter Try.func9, Try.ntmps9
  go_wp2_with ((go_at_call 16; refine (check16_ok da sy ca true fu _ h).mono ?_; rintro e w1 ⟨rfl, hb⟩; obtain ⟨hc, hf⟩ := bcell hb; obtain ⟨hz0, hz1, hz2⟩ := size3 hb))
  refine bodyPost_ret (v := .tuple #[.agg #[.string da, .int .i64 sy, .int .i64 ca, .bool true, .int .i64 fu], .int .i64 12]) (by simp [results, Try.results9, go_sem, hz0, hz1, hz2, hc]) rfl ⟨rfl, ?_⟩
  have hb2 := (((Below.refl w.heap.size w).alloc (Nat.le_refl _) _).alloc (by simp) _).alloc (by simp; omega) _ |>.trans (hb.mono (by simp; omega))
  have hb3 := hb2
  repeat (first | with_reducible exact hb3 | refine Below.setCell ?_ (by first | omega | (simp; done) | (simp; omega)) _)

set_option maxHeartbeats 1000000 in
theorem do9_down2 (h : okB da sy ca = true)  :
    Calls Try.prog 9 #[.agg #[.string da, .int .i64 sy, .int .i64 ca, .bool true, .int .i64 fu], .agg #[.int .u8 2, .string sd, .int .i64 sz]] w fun e w' => e = .returned (.tuple #[.agg #[.string da, .int .i64 sy, .int .i64 ca, .bool true, .int .i64 fu], .int .i64 12]) ∧ Below w.heap.size w w' := by
  obtain ⟨g1, g2, g3, g4, g5⟩ := okB_true h
  go_enter Try.func9, Try.ntmps9
  go_wp2_with ((go_at_call 16; refine (check16_ok da sy ca true fu _ h).mono ?_; rintro e w1 ⟨rfl, hb⟩; obtain ⟨hc, hf⟩ := bcell hb; obtain ⟨hz0, hz1, hz2⟩ := size3 hb))
  refine bodyPost_ret (v := .tuple #[.agg #[.string da, .int .i64 sy, .int .i64 ca, .bool true, .int .i64 fu], .int .i64 12]) (by simp [results, Try.results9, go_sem, hz0, hz1, hz2, hc]) rfl ⟨rfl, ?_⟩
  have hb2 := (((Below.refl w.heap.size w).alloc (Nat.le_refl _) _).alloc (by simp) _).alloc (by simp; omega) _ |>.trans (hb.mono (by simp; omega))
  have hb3 := hb2
  repeat (first | with_reducible exact hb3 | refine Below.setCell ?_ (by first | omega | (simp; done) | (simp; omega)) _)

set_option maxHeartbeats 1000000 in
theorem do9_down3 (h : okB da sy ca = true)  :
    Calls Try.prog 9 #[.agg #[.string da, .int .i64 sy, .int .i64 ca, .bool true, .int .i64 fu], .agg #[.int .u8 3, .string sd, .int .i64 sz]] w fun e w' => e = .returned (.tuple #[.agg #[.string da, .int .i64 sy, .int .i64 ca, .bool true, .int .i64 fu], .int .i64 12]) ∧ Below w.heap.size w w' := by
  obtain ⟨g1, g2, g3, g4, g5⟩ := okB_true h
  go_enter Try.func9, Try.ntmps9
  go_wp2_with ((go_at_call 16; refine (check16_ok da sy ca true fu _ h).mono ?_; rintro e w1 ⟨rfl, hb⟩; obtain ⟨hc, hf⟩ := bcell hb; obtain ⟨hz0, hz1, hz2⟩ := size3 hb))
  refine bodyPost_ret (v := .tuple #[.agg #[.string da, .int .i64 sy, .int .i64 ca, .bool true, .int .i64 fu], .int .i64 12]) (by simp [results, Try.results9, go_sem, hz0, hz1, hz2, hc]) rfl ⟨rfl, ?_⟩
  have hb2 := (((Below.refl w.heap.size w).alloc (Nat.le_refl _) _).alloc (by simp) _).alloc (by simp; omega) _ |>.trans (hb.mono (by simp; omega))
  have hb3 := hb2
  repeat (first | with_reducible exact hb3 | refine Below.setCell ?_ (by first | omega | (simp; done) | (simp; omega)) _)

set_option maxHeartbeats 1000000 in
theorem do9_full (h : okB da sy ca = true) (h1 : ca - (da.size : Int) < (sd.size : Int)) :
    Calls Try.prog 9 #[.agg #[.string da, .int .i64 sy, .int .i64 ca, .bool false, .int .i64 fu], .agg #[.int .u8 1, .string sd, .int .i64 sz]] w fun e w' => e = .returned (.tuple #[.agg #[.string da, .int .i64 sy, .int .i64 ca, .bool false, .int .i64 fu], .int .i64 8]) ∧ Below w.heap.size w w' := by
  obtain ⟨g1, g2, g3, g4, g5⟩ := okB_true h
  go_enter Try.func9, Try.ntmps9
  go_wp2_with (first | (go_at_call 16; refine (check16_ok da sy ca false fu _ h).mono ?_; rintro e w1 ⟨rfl, hb⟩; obtain ⟨hc, hf⟩ := bcell hb; obtain ⟨hz0, hz1, hz2⟩ := size3 hb) | (go_at_call 22; refine (ref22_full da sy ca false fu sd sz _ g1 g2 g3 h1).mono ?_; rintro e w2 ⟨rfl, hl⟩; obtain ⟨⟨d0, d1, d2, d3, d4, d5, d6, d7, d8, d9, d10, d11, d12⟩, u0, u1, u2⟩ := three_cells (hb.trans (hl.mono (hb.size))); have hq := hl.size; clear hc hf))
  refine bodyPost_ret (v := .tuple #[.agg #[.string da, .int .i64 sy, .int .i64 ca, .bool false, .int .i64 fu], .int .i64 8]) (by simp [results, Try.results9, go_sem, hz0, hz1, hz2, d0, d1, d2, d3, d4, d8, d9, d10, d11, d12, hq]) rfl ⟨rfl, ?_⟩
  have hb2 := (((Below.refl w.heap.size w).alloc (Nat.le_refl _) _).alloc (by simp) _).alloc (by simp; omega) _ |>.trans (hb.mono (by simp; omega))
  have hb3 := hb2.trans (hl.mono (Nat.le_of_lt hz0))
  repeat (first | with_reducible exact hb3 | refine Below.setCell ?_ (by first | omega | (simp; done) | (simp; omega)) _)

set_option maxHeartbeats 1000000 in
theorem do9_neg (h : okB da sy ca = true) (h1 : sz < 0) :
    Calls Try.prog 9 #[.agg #[.string da, .int .i64 sy, .int .i64 ca, .bool false, .int .i64 fu], .agg #[.int .u8 3, .string sd, .int .i64 sz]] w fun e w' => e = .returned (.tuple #[.agg #[.string da, .int .i64 sy, .int .i64 ca, .bool false, .int .i64 fu], .int .i64 2]) ∧ Below w.heap.size w w' := by
  obtain ⟨g1, g2, g3, g4, g5⟩ := okB_true h
  go_enter Try.func9, Try.ntmps9
  go_wp2_with (first | (go_at_call 16; refine (check16_ok da sy ca false fu _ h).mono ?_; rintro e w1 ⟨rfl, hb⟩; obtain ⟨hc, hf⟩ := bcell hb; obtain ⟨hz0, hz1, hz2⟩ := size3 hb) | (go_at_call 22; refine (ref22_neg da sy ca false fu sd sz _ h1).mono ?_; rintro e w2 ⟨rfl, hl⟩; obtain ⟨⟨d0, d1, d2, d3, d4, d5, d6, d7, d8, d9, d10, d11, d12⟩, u0, u1, u2⟩ := three_cells (hb.trans (hl.mono (hb.size))); have hq := hl.size; clear hc hf))
  refine bodyPost_ret (v := .tuple #[.agg #[.string da, .int .i64 sy, .int .i64 ca, .bool false, .int .i64 fu], .int .i64 2]) (by simp [results, Try.results9, go_sem, hz0, hz1, hz2, d0, d1, d2, d3, d4, d8, d9, d10, d11, d12, hq]) rfl ⟨rfl, ?_⟩
  have hb2 := (((Below.refl w.heap.size w).alloc (Nat.le_refl _) _).alloc (by simp) _).alloc (by simp; omega) _ |>.trans (hb.mono (by simp; omega))
  have hb3 := hb2.trans (hl.mono (Nat.le_of_lt hz0))
  repeat (first | with_reducible exact hb3 | refine Below.setCell ?_ (by first | omega | (simp; done) | (simp; omega)) _)

set_option maxHeartbeats 1000000 in
theorem do9_big (h : okB da sy ca = true) (h1 : 0 ≤ sz) (h2 : (da.size : Int) < sz) :
    Calls Try.prog 9 #[.agg #[.string da, .int .i64 sy, .int .i64 ca, .bool false, .int .i64 fu], .agg #[.int .u8 3, .string sd, .int .i64 sz]] w fun e w' => e = .returned (.tuple #[.agg #[.string da, .int .i64 sy, .int .i64 ca, .bool false, .int .i64 fu], .int .i64 2]) ∧ Below w.heap.size w w' := by
  obtain ⟨g1, g2, g3, g4, g5⟩ := okB_true h
  go_enter Try.func9, Try.ntmps9
  go_wp2_with (first | (go_at_call 16; refine (check16_ok da sy ca false fu _ h).mono ?_; rintro e w1 ⟨rfl, hb⟩; obtain ⟨hc, hf⟩ := bcell hb; obtain ⟨hz0, hz1, hz2⟩ := size3 hb) | (go_at_call 22; refine (ref22_big da sy ca false fu sd sz _ h1 h2).mono ?_; rintro e w2 ⟨rfl, hl⟩; obtain ⟨⟨d0, d1, d2, d3, d4, d5, d6, d7, d8, d9, d10, d11, d12⟩, u0, u1, u2⟩ := three_cells (hb.trans (hl.mono (hb.size))); have hq := hl.size; clear hc hf))
  refine bodyPost_ret (v := .tuple #[.agg #[.string da, .int .i64 sy, .int .i64 ca, .bool false, .int .i64 fu], .int .i64 2]) (by simp [results, Try.results9, go_sem, hz0, hz1, hz2, d0, d1, d2, d3, d4, d8, d9, d10, d11, d12, hq]) rfl ⟨rfl, ?_⟩
  have hb2 := (((Below.refl w.heap.size w).alloc (Nat.le_refl _) _).alloc (by simp) _).alloc (by simp; omega) _ |>.trans (hb.mono (by simp; omega))
  have hb3 := hb2.trans (hl.mono (Nat.le_of_lt hz0))
  repeat (first | with_reducible exact hb3 | refine Below.setCell ?_ (by first | omega | (simp; done) | (simp; omega)) _)

set_option maxHeartbeats 1000000 in
theorem do9_wz (h : okB da sy ca = true) (h1 : (sd.size : Int) ≤ ca - (da.size : Int))  :
    Calls Try.prog 9 #[.agg #[.string da, .int .i64 sy, .int .i64 ca, .bool false, .int .i64 0], .agg #[.int .u8 1, .string sd, .int .i64 sz]] w fun e w' => e = .returned (.tuple #[.agg #[.string (da ++ sd), .int .i64 sy, .int .i64 ca, .bool true, .int .i64 0], .int .i64 12]) ∧ Below w.heap.size w w' := by
  obtain ⟨g1, g2, g3, g4, g5⟩ := okB_true h
  go_enter Try.func9, Try.ntmps9
  go_wp2_with (first | (go_at_call 16; refine (check16_ok da sy ca false 0 _ h).mono ?_; rintro e w1 ⟨rfl, hb⟩; obtain ⟨hc, hf⟩ := bcell hb; obtain ⟨hz0, hz1, hz2⟩ := size3 hb) | (go_at_call 22; refine (ref22_w da sy ca false 0 sd sz _ g1 g2 g3 h1).mono ?_; rintro e w2 ⟨rfl, hl⟩; obtain ⟨⟨d0, d1, d2, d3, d4, d5, d6, d7, d8, d9, d10, d11, d12⟩, u0, u1, u2⟩ := three_cells (hb.trans (hl.mono (hb.size))); have hq := hl.size; clear hc hf))
  refine bodyPost_ret (v := .tuple #[.agg #[.string (da ++ sd), .int .i64 sy, .int .i64 ca, .bool true, .int .i64 0], .int .i64 12]) (by simp [results, Try.results9, go_sem, hz0, hz1, hz2, d0, d1, d2, d3, d4, d8, d9, d10, d11, d12, hq]) rfl ⟨rfl, ?_⟩
  have hb2 := (((Below.refl w.heap.size w).alloc (Nat.le_refl _) _).alloc (by simp) _).alloc (by simp; omega) _ |>.trans (hb.mono (by simp; omega))
  have hb3 := hb2.trans (hl.mono (Nat.le_of_lt hz0))
  repeat (first | with_reducible exact hb3 | refine Below.setCell ?_ (by first | omega | (simp; done) | (simp; omega)) _)

set_option maxHeartbeats 1000000 in
theorem do9_sz (h : okB da sy ca = true)  :
    Calls Try.prog 9 #[.agg #[.string da, .int .i64 sy, .int .i64 ca, .bool false, .int .i64 0], .agg #[.int .u8 2, .string sd, .int .i64 sz]] w fun e w' => e = .returned (.tuple #[.agg #[.string da, .int .i64 sy, .int .i64 ca, .bool true, .int .i64 0], .int .i64 12]) ∧ Below w.heap.size w w' := by
  obtain ⟨g1, g2, g3, g4, g5⟩ := okB_true h
  go_enter Try.func9, Try.ntmps9
  go_wp2_with (first | (go_at_call 16; refine (check16_ok da sy ca false 0 _ h).mono ?_; rintro e w1 ⟨rfl, hb⟩; obtain ⟨hc, hf⟩ := bcell hb; obtain ⟨hz0, hz1, hz2⟩ := size3 hb) | (go_at_call 22; refine (ref22_s da sy ca false 0 sd sz _).mono ?_; rintro e w2 ⟨rfl, hl⟩; obtain ⟨⟨d0, d1, d2, d3, d4, d5, d6, d7, d8, d9, d10, d11, d12⟩, u0, u1, u2⟩ := three_cells (hb.trans (hl.mono (hb.size))); have hq := hl.size; clear hc hf))
  refine bodyPost_ret (v := .tuple #[.agg #[.string da, .int .i64 sy, .int .i64 ca, .bool true, .int .i64 0], .int .i64 12]) (by simp [results, Try.results9, go_sem, hz0, hz1, hz2, d0, d1, d2, d3, d4, d8, d9, d10, d11, d12, hq]) rfl ⟨rfl, ?_⟩
  have hb2 := (((Below.refl w.heap.size w).alloc (Nat.le_refl _) _).alloc (by simp) _).alloc (by simp; omega) _ |>.trans (hb.mono (by simp; omega))
  have hb3 := hb2.trans (hl.mono (Nat.le_of_lt hz0))
  repeat (first | with_reducible exact hb3 | refine Below.setCell ?_ (by first | omega | (simp; done) | (simp; omega)) _)

set_option maxHeartbeats 1000000 in
theorem do9_cz (h : okB da sy ca = true) (h1 : 0 ≤ sz) (h2 : sz ≤ (da.size : Int))  :
    Calls Try.prog 9 #[.agg #[.string da, .int .i64 sy, .int .i64 ca, .bool false, .int .i64 0], .agg #[.int .u8 3, .string sd, .int .i64 sz]] w fun e w' => e = .returned (.tuple #[.agg #[.string da, .int .i64 sy, .int .i64 ca, .bool true, .int .i64 0], .int .i64 12]) ∧ Below w.heap.size w w' := by
  obtain ⟨g1, g2, g3, g4, g5⟩ := okB_true h
  go_enter Try.func9, Try.ntmps9
  go_wp2_with (first | (go_at_call 16; refine (check16_ok da sy ca false 0 _ h).mono ?_; rintro e w1 ⟨rfl, hb⟩; obtain ⟨hc, hf⟩ := bcell hb; obtain ⟨hz0, hz1, hz2⟩ := size3 hb) | (go_at_call 22; refine (ref22_c da sy ca false 0 sd sz _ h1 h2).mono ?_; rintro e w2 ⟨rfl, hl⟩; obtain ⟨⟨d0, d1, d2, d3, d4, d5, d6, d7, d8, d9, d10, d11, d12⟩, u0, u1, u2⟩ := three_cells (hb.trans (hl.mono (hb.size))); have hq := hl.size; clear hc hf))
  refine bodyPost_ret (v := .tuple #[.agg #[.string da, .int .i64 sy, .int .i64 ca, .bool true, .int .i64 0], .int .i64 12]) (by simp [results, Try.results9, go_sem, hz0, hz1, hz2, d0, d1, d2, d3, d4, d8, d9, d10, d11, d12, hq]) rfl ⟨rfl, ?_⟩
  have hb2 := (((Below.refl w.heap.size w).alloc (Nat.le_refl _) _).alloc (by simp) _).alloc (by simp; omega) _ |>.trans (hb.mono (by simp; omega))
  have hb3 := hb2.trans (hl.mono (Nat.le_of_lt hz0))
  repeat (first | with_reducible exact hb3 | refine Below.setCell ?_ (by first | omega | (simp; done) | (simp; omega)) _)

set_option maxHeartbeats 1000000 in
theorem do9_wp (h : okB da sy ca = true) (h1 : (sd.size : Int) ≤ ca - (da.size : Int)) (hu : 0 < fu) (hu2 : fu ≤ 9223372036854775807) :
    Calls Try.prog 9 #[.agg #[.string da, .int .i64 sy, .int .i64 ca, .bool false, .int .i64 fu], .agg #[.int .u8 1, .string sd, .int .i64 sz]] w fun e w' => e = .returned (.tuple #[.agg #[.string (da ++ sd), .int .i64 sy, .int .i64 ca, .bool false, .int .i64 (fu - 1)], .int .i64 0]) ∧ Below w.heap.size w w' := by
  obtain ⟨g1, g2, g3, g4, g5⟩ := okB_true h
  have e0 : (fu != 0) = true := by simp; omega
  have e1 : (fu == 0) = false := by simp; omega
  go_enter Try.func9, Try.ntmps9
  go_wp2_with (first | (go_at_call 16; refine (check16_ok da sy ca false fu _ h).mono ?_; rintro e w1 ⟨rfl, hb⟩; obtain ⟨hc, hf⟩ := bcell hb; obtain ⟨hz0, hz1, hz2⟩ := size3 hb) | (go_at_call 22; refine (ref22_w da sy ca false fu sd sz _ g1 g2 g3 h1).mono ?_; rintro e w2 ⟨rfl, hl⟩; obtain ⟨⟨d0, d1, d2, d3, d4, d5, d6, d7, d8, d9, d10, d11, d12⟩, u0, u1, u2⟩ := three_cells (hb.trans (hl.mono (hb.size))); have hq := hl.size; clear hc hf))
  refine bodyPost_ret (v := .tuple #[.agg #[.string (da ++ sd), .int .i64 sy, .int .i64 ca, .bool false, .int .i64 (fu - 1)], .int .i64 0]) (by simp [results, Try.results9, go_sem, hz0, hz1, hz2, d0, d1, d2, d3, d4, d8, d9, d10, d11, d12, hq]) rfl ⟨rfl, ?_⟩
  have hb2 := (((Below.refl w.heap.size w).alloc (Nat.le_refl _) _).alloc (by simp) _).alloc (by simp; omega) _ |>.trans (hb.mono (by simp; omega))
  have hb3 := hb2.trans (hl.mono (Nat.le_of_lt hz0))
  repeat (first | with_reducible exact hb3 | refine Below.setCell ?_ (by first | omega | (simp; done) | (simp; omega)) _)

set_option maxHeartbeats 1000000 in
theorem do9_sp (h : okB da sy ca = true) (hu : 0 < fu) (hu2 : fu ≤ 9223372036854775807) :
    Calls Try.prog 9 #[.agg #[.string da, .int .i64 sy, .int .i64 ca, .bool false, .int .i64 fu], .agg #[.int .u8 2, .string sd, .int .i64 sz]] w fun e w' => e = .returned (.tuple #[.agg #[.string da, .int .i64 da.size, .int .i64 ca, .bool false, .int .i64 (fu - 1)], .int .i64 0]) ∧ Below w.heap.size w w' := by
  obtain ⟨g1, g2, g3, g4, g5⟩ := okB_true h
  have e0 : (fu != 0) = true := by simp; omega
  have e1 : (fu == 0) = false := by simp; omega
  go_enter Try.func9, Try.ntmps9
  go_wp2_with (first | (go_at_call 16; refine (check16_ok da sy ca false fu _ h).mono ?_; rintro e w1 ⟨rfl, hb⟩; obtain ⟨hc, hf⟩ := bcell hb; obtain ⟨hz0, hz1, hz2⟩ := size3 hb) | (go_at_call 22; refine (ref22_s da sy ca false fu sd sz _).mono ?_; rintro e w2 ⟨rfl, hl⟩; obtain ⟨⟨d0, d1, d2, d3, d4, d5, d6, d7, d8, d9, d10, d11, d12⟩, u0, u1, u2⟩ := three_cells (hb.trans (hl.mono (hb.size))); have hq := hl.size; clear hc hf))
  refine bodyPost_ret (v := .tuple #[.agg #[.string da, .int .i64 da.size, .int .i64 ca, .bool false, .int .i64 (fu - 1)], .int .i64 0]) (by simp [results, Try.results9, go_sem, hz0, hz1, hz2, d0, d1, d2, d3, d4, d8, d9, d10, d11, d12, hq]) rfl ⟨rfl, ?_⟩
  have hb2 := (((Below.refl w.heap.size w).alloc (Nat.le_refl _) _).alloc (by simp) _).alloc (by simp; omega) _ |>.trans (hb.mono (by simp; omega))
  have hb3 := hb2.trans (hl.mono (Nat.le_of_lt hz0))
  repeat (first | with_reducible exact hb3 | refine Below.setCell ?_ (by first | omega | (simp; done) | (simp; omega)) _)

set_option maxHeartbeats 1000000 in
theorem do9_cp (h : okB da sy ca = true) (h1 : 0 ≤ sz) (h2 : sz ≤ (da.size : Int)) (hu : 0 < fu) (hu2 : fu ≤ 9223372036854775807) :
    Calls Try.prog 9 #[.agg #[.string da, .int .i64 sy, .int .i64 ca, .bool false, .int .i64 fu], .agg #[.int .u8 3, .string sd, .int .i64 sz]] w fun e w' => e = .returned (.tuple #[.agg #[.string (da.extract 0 sz.toNat), .int .i64 sz, .int .i64 ca, .bool false, .int .i64 (fu - 1)], .int .i64 0]) ∧ Below w.heap.size w w' := by
  obtain ⟨g1, g2, g3, g4, g5⟩ := okB_true h
  have e0 : (fu != 0) = true := by simp; omega
  have e1 : (fu == 0) = false := by simp; omega
  go_enter Try.func9, Try.ntmps9
  go_wp2_with (first | (go_at_call 16; refine (check16_ok da sy ca false fu _ h).mono ?_; rintro e w1 ⟨rfl, hb⟩; obtain ⟨hc, hf⟩ := bcell hb; obtain ⟨hz0, hz1, hz2⟩ := size3 hb) | (go_at_call 22; refine (ref22_c da sy ca false fu sd sz _ h1 h2).mono ?_; rintro e w2 ⟨rfl, hl⟩; obtain ⟨⟨d0, d1, d2, d3, d4, d5, d6, d7, d8, d9, d10, d11, d12⟩, u0, u1, u2⟩ := three_cells (hb.trans (hl.mono (hb.size))); have hq := hl.size; clear hc hf))
  refine bodyPost_ret (v := .tuple #[.agg #[.string (da.extract 0 sz.toNat), .int .i64 sz, .int .i64 ca, .bool false, .int .i64 (fu - 1)], .int .i64 0]) (by simp [results, Try.results9, go_sem, hz0, hz1, hz2, d0, d1, d2, d3, d4, d8, d9, d10, d11, d12, hq]) rfl ⟨rfl, ?_⟩
  have hb2 := (((Below.refl w.heap.size w).alloc (Nat.le_refl _) _).alloc (by simp) _).alloc (by simp; omega) _ |>.trans (hb.mono (by simp; omega))
  have hb3 := hb2.trans (hl.mono (Nat.le_of_lt hz0))
  repeat (first | with_reducible exact hb3 | refine Below.setCell ?_ (by first | omega | (simp; done) | (simp; omega)) _)

set_option maxHeartbeats 1000000 in
theorem do9_wn (h : okB da sy ca = true) (h1 : (sd.size : Int) ≤ ca - (da.size : Int)) (hu : fu < 0) :
    Calls Try.prog 9 #[.agg #[.string da, .int .i64 sy, .int .i64 ca, .bool false, .int .i64 fu], .agg #[.int .u8 1, .string sd, .int .i64 sz]] w fun e w' => e = .returned (.tuple #[.agg #[.string (da ++ sd), .int .i64 sy, .int .i64 ca, .bool false, .int .i64 fu], .int .i64 0]) ∧ Below w.heap.size w w' := by
  obtain ⟨g1, g2, g3, g4, g5⟩ := okB_true h
  have e0 : (fu != 0) = true := by simp; omega
  have e1 : (fu == 0) = false := by simp; omega
  have e2 : decide (0 < fu) = false := by simp; omega
  go_enter Try.func9, Try.ntmps9
  go_wp2_with (first | (go_at_call 16; refine (check16_ok da sy ca false fu _ h).mono ?_; rintro e w1 ⟨rfl, hb⟩; obtain ⟨hc, hf⟩ := bcell hb; obtain ⟨hz0, hz1, hz2⟩ := size3 hb) | (go_at_call 22; refine (ref22_w da sy ca false fu sd sz _ g1 g2 g3 h1).mono ?_; rintro e w2 ⟨rfl, hl⟩; obtain ⟨⟨d0, d1, d2, d3, d4, d5, d6, d7, d8, d9, d10, d11, d12⟩, u0, u1, u2⟩ := three_cells (hb.trans (hl.mono (hb.size))); have hq := hl.size; clear hc hf))
  refine bodyPost_ret (v := .tuple #[.agg #[.string (da ++ sd), .int .i64 sy, .int .i64 ca, .bool false, .int .i64 fu], .int .i64 0]) (by simp [results, Try.results9, go_sem, hz0, hz1, hz2, d0, d1, d2, d3, d4, d8, d9, d10, d11, d12, hq]) rfl ⟨rfl, ?_⟩
  have hb2 := (((Below.refl w.heap.size w).alloc (Nat.le_refl _) _).alloc (by simp) _).alloc (by simp; omega) _ |>.trans (hb.mono (by simp; omega))
  have hb3 := hb2.trans (hl.mono (Nat.le_of_lt hz0))
  repeat (first | with_reducible exact hb3 | refine Below.setCell ?_ (by first | omega | (simp; done) | (simp; omega)) _)

set_option maxHeartbeats 1000000 in
theorem do9_sn (h : okB da sy ca = true) (hu : fu < 0) :
    Calls Try.prog 9 #[.agg #[.string da, .int .i64 sy, .int .i64 ca, .bool false, .int .i64 fu], .agg #[.int .u8 2, .string sd, .int .i64 sz]] w fun e w' => e = .returned (.tuple #[.agg #[.string da, .int .i64 da.size, .int .i64 ca, .bool false, .int .i64 fu], .int .i64 0]) ∧ Below w.heap.size w w' := by
  obtain ⟨g1, g2, g3, g4, g5⟩ := okB_true h
  have e0 : (fu != 0) = true := by simp; omega
  have e1 : (fu == 0) = false := by simp; omega
  have e2 : decide (0 < fu) = false := by simp; omega
  go_enter Try.func9, Try.ntmps9
  go_wp2_with (first | (go_at_call 16; refine (check16_ok da sy ca false fu _ h).mono ?_; rintro e w1 ⟨rfl, hb⟩; obtain ⟨hc, hf⟩ := bcell hb; obtain ⟨hz0, hz1, hz2⟩ := size3 hb) | (go_at_call 22; refine (ref22_s da sy ca false fu sd sz _).mono ?_; rintro e w2 ⟨rfl, hl⟩; obtain ⟨⟨d0, d1, d2, d3, d4, d5, d6, d7, d8, d9, d10, d11, d12⟩, u0, u1, u2⟩ := three_cells (hb.trans (hl.mono (hb.size))); have hq := hl.size; clear hc hf))
  refine bodyPost_ret (v := .tuple #[.agg #[.string da, .int .i64 da.size, .int .i64 ca, .bool false, .int .i64 fu], .int .i64 0]) (by simp [results, Try.results9, go_sem, hz0, hz1, hz2, d0, d1, d2, d3, d4, d8, d9, d10, d11, d12, hq]) rfl ⟨rfl, ?_⟩
  have hb2 := (((Below.refl w.heap.size w).alloc (Nat.le_refl _) _).alloc (by simp) _).alloc (by simp; omega) _ |>.trans (hb.mono (by simp; omega))
  have hb3 := hb2.trans (hl.mono (Nat.le_of_lt hz0))
  repeat (first | with_reducible exact hb3 | refine Below.setCell ?_ (by first | omega | (simp; done) | (simp; omega)) _)

set_option maxHeartbeats 1000000 in
theorem do9_cn (h : okB da sy ca = true) (h1 : 0 ≤ sz) (h2 : sz ≤ (da.size : Int)) (hu : fu < 0) :
    Calls Try.prog 9 #[.agg #[.string da, .int .i64 sy, .int .i64 ca, .bool false, .int .i64 fu], .agg #[.int .u8 3, .string sd, .int .i64 sz]] w fun e w' => e = .returned (.tuple #[.agg #[.string (da.extract 0 sz.toNat), .int .i64 sz, .int .i64 ca, .bool false, .int .i64 fu], .int .i64 0]) ∧ Below w.heap.size w w' := by
  obtain ⟨g1, g2, g3, g4, g5⟩ := okB_true h
  have e0 : (fu != 0) = true := by simp; omega
  have e1 : (fu == 0) = false := by simp; omega
  have e2 : decide (0 < fu) = false := by simp; omega
  go_enter Try.func9, Try.ntmps9
  go_wp2_with (first | (go_at_call 16; refine (check16_ok da sy ca false fu _ h).mono ?_; rintro e w1 ⟨rfl, hb⟩; obtain ⟨hc, hf⟩ := bcell hb; obtain ⟨hz0, hz1, hz2⟩ := size3 hb) | (go_at_call 22; refine (ref22_c da sy ca false fu sd sz _ h1 h2).mono ?_; rintro e w2 ⟨rfl, hl⟩; obtain ⟨⟨d0, d1, d2, d3, d4, d5, d6, d7, d8, d9, d10, d11, d12⟩, u0, u1, u2⟩ := three_cells (hb.trans (hl.mono (hb.size))); have hq := hl.size; clear hc hf))
  refine bodyPost_ret (v := .tuple #[.agg #[.string (da.extract 0 sz.toNat), .int .i64 sz, .int .i64 ca, .bool false, .int .i64 fu], .int .i64 0]) (by simp [results, Try.results9, go_sem, hz0, hz1, hz2, d0, d1, d2, d3, d4, d8, d9, d10, d11, d12, hq]) rfl ⟨rfl, ?_⟩
  have hb2 := (((Below.refl w.heap.size w).alloc (Nat.le_refl _) _).alloc (by simp) _).alloc (by simp; omega) _ |>.trans (hb.mono (by simp; omega))
  have hb3 := hb2.trans (hl.mono (Nat.le_of_lt hz0))
  repeat (first | with_reducible exact hb3 | refine Below.setCell ?_ (by first | omega | (simp; done) | (simp; omega)) _)

end
end Go.Proofs.Ythfmmkabfndbfaa
