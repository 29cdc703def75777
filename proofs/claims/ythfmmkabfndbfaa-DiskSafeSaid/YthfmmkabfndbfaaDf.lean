/- Crash: both the program's and the reference's. -/
import Derived.Test.YthfmmkabfndbfaaDe
namespace Go.Proofs.Ythfmmkabfndbfaa
open Go.RowKit
set_option linter.unusedSimpArgs false
set_option linter.unusedVariables false
section
variable (da : ByteArray) (sy ca : Int) (dn : Bool) (fu : Int) (keep : Int) (w : World)

theorem size2 {w w1 : World} {o1 o2 : Obj} (hb : Below ((w.alloc o1).alloc o2).heap.size ((w.alloc o1).alloc o2) w1) : w.heap.size < w1.heap.size ∧ w.heap.size + 1 < w1.heap.size := by
  have := hb.size
  simp at this
  omega
theorem two_cells {w w1 : World} {a0 a1 a2 a3 a4 z0 z1 z2 z3 z4 : Value} {S U : TypeId}
    (hb : Below ((w.alloc (.cells #[a0, a1, a2, a3, a4] S)).alloc (.cells #[z0, z1, z2, z3, z4] U)).heap.size ((w.alloc (.cells #[a0, a1, a2, a3, a4] S)).alloc (.cells #[z0, z1, z2, z3, z4] U)) w1) :
    (w1.cell? ⟨w.heap.size, 0, none⟩ = some a0 ∧ w1.cell? ⟨w.heap.size, 1, none⟩ = some a1 ∧ w1.cell? ⟨w.heap.size, 2, none⟩ = some a2 ∧ w1.cell? ⟨w.heap.size, 3, none⟩ = some a3 ∧ w1.cell? ⟨w.heap.size, 4, none⟩ = some a4 ∧
    w1.cell? ⟨w.heap.size + 1, 0, none⟩ = some z0 ∧ w1.cell? ⟨w.heap.size + 1, 1, none⟩ = some z1 ∧ w1.cell? ⟨w.heap.size + 1, 2, none⟩ = some z2 ∧ w1.cell? ⟨w.heap.size + 1, 3, none⟩ = some z3 ∧ w1.cell? ⟨w.heap.size + 1, 4, none⟩ = some z4) ∧
    (∀ o, w1.frozen? ⟨w.heap.size, o, none⟩ = false) ∧ (∀ o, w1.frozen? ⟨w.heap.size + 1, o, none⟩ = false) := by
  have e0 := hb.block w.heap.size (by simp; omega)
  have e1 := hb.block (w.heap.size + 1) (by simp)
  rw [Below.heap_alloc _ _ _ (by simp), heap_last] at e0
  have q1 : ((w.alloc (.cells #[a0, a1, a2, a3, a4] S)).alloc (.cells #[z0, z1, z2, z3, z4] U)).heap[w.heap.size + 1]? = some (.cells #[z0, z1, z2, z3, z4] U) := by simpa using heap_last (w.alloc (.cells #[a0, a1, a2, a3, a4] S)) (.cells #[z0, z1, z2, z3, z4] U)
  have e1' := e1.trans q1
  simp [World.cell?, World.frozen?, e0, e1']

set_option maxHeartbeats 1000000 in
theorem crash_bad12 (h : okB da sy ca = false)  :
    Calls Try.prog 12 #[.agg #[.string da, .int .i64 sy, .int .i64 ca, .bool dn, .int .i64 fu], .int .i64 keep] w fun e w' => e = .returned (.tuple #[.agg #[.string ⟨#[]⟩, .int .i64 0, .int .i64 0, .bool false, .int .i64 0], .int .i64 6]) ∧ Below w.heap.size w w' := by
  go_enter Try.func12, Try.ntmps12
  go_wp2_with (go_at_call 15; refine (check15_no da sy ca dn fu _ h).mono ?_; rintro e w1 ⟨rfl, hb⟩; obtain ⟨⟨d0, d1, d2, d3, d4, d8, d9, d10, d11, d12⟩, u0, u2⟩ := two_cells hb; obtain ⟨hz0, hz1⟩ := size2 hb)
  refine bodyPost_ret (v := .tuple #[.agg #[.string ⟨#[]⟩, .int .i64 0, .int .i64 0, .bool false, .int .i64 0], .int .i64 6]) (by simp [results, Try.results12, go_sem, hz0, hz1, d8, d9, d10, d11, d12]) rfl ⟨rfl, ?_⟩
  have hb2 := ((Below.refl w.heap.size w).alloc (Nat.le_refl _) _).alloc (by simp) _ |>.trans (hb.mono (by simp; omega))
  repeat (first | with_reducible exact hb2 | refine Below.setCell ?_ (by first | omega | (simp; done) | (simp; omega)) _)

set_option maxHeartbeats 1000000 in
theorem crash_neg12 (h : okB da sy ca = true) (h1 : keep < 0) :
    Calls Try.prog 12 #[.agg #[.string da, .int .i64 sy, .int .i64 ca, .bool dn, .int .i64 fu], .int .i64 keep] w fun e w' => e = .returned (.tuple #[.agg #[.string (da.extract 0 (sy).toNat), .int .i64 (sy), .int .i64 ca, .bool false, .int .i64 (-1)], .int .i64 0]) ∧ Below w.heap.size w w' := by
  obtain ⟨g1, g2, g3, g4, g5⟩ := okB_true h
  have e1 : decide (keep < 0) = true := by simp; omega
  have e4 : decide ((da.size : Int) - sy < 0) = false := by simp; omega
  go_enter Try.func12, Try.ntmps12
  go_wp2_with (go_at_call 15; refine (check15_ok da sy ca dn fu _ h).mono ?_; rintro e w1 ⟨rfl, hb⟩; obtain ⟨⟨d0, d1, d2, d3, d4, d8, d9, d10, d11, d12⟩, u0, u2⟩ := two_cells hb; obtain ⟨hz0, hz1⟩ := size2 hb)
  have m1 : max sy 0 = sy := by omega
  have m2 : ((min (sy).toNat da.size : Nat) : Int) = sy := by omega
  refine bodyPost_ret (v := .tuple #[.agg #[.string (da.extract 0 (sy).toNat), .int .i64 (sy), .int .i64 ca, .bool false, .int .i64 (-1)], .int .i64 0]) (by simp [results, Try.results12, go_sem, hz0, hz1, d8, d9, d10, d11, d12, m1, m2]) rfl ⟨rfl, ?_⟩
  have hb2 := ((Below.refl w.heap.size w).alloc (Nat.le_refl _) _).alloc (by simp) _ |>.trans (hb.mono (by simp; omega))
  repeat (first | with_reducible exact hb2 | refine Below.setCell ?_ (by first | omega | (simp; done) | (simp; omega)) _)

set_option maxHeartbeats 1000000 in
theorem crash_mid12 (h : okB da sy ca = true) (h1 : 0 ≤ keep) (h2 : keep ≤ (da.size : Int) - sy) :
    Calls Try.prog 12 #[.agg #[.string da, .int .i64 sy, .int .i64 ca, .bool dn, .int .i64 fu], .int .i64 keep] w fun e w' => e = .returned (.tuple #[.agg #[.string (da.extract 0 (sy + keep).toNat), .int .i64 (sy + keep), .int .i64 ca, .bool false, .int .i64 (-1)], .int .i64 0]) ∧ Below w.heap.size w w' := by
  obtain ⟨g1, g2, g3, g4, g5⟩ := okB_true h
  have e1 : decide (keep < 0) = false := by simp; omega
  have e2 : decide ((da.size : Int) - sy < keep) = false := by simp; omega
  go_enter Try.func12, Try.ntmps12
  go_wp2_with (go_at_call 15; refine (check15_ok da sy ca dn fu _ h).mono ?_; rintro e w1 ⟨rfl, hb⟩; obtain ⟨⟨d0, d1, d2, d3, d4, d8, d9, d10, d11, d12⟩, u0, u2⟩ := two_cells hb; obtain ⟨hz0, hz1⟩ := size2 hb)
  have m1 : max sy 0 = sy := by omega
  have m2 : ((min (sy + keep).toNat da.size : Nat) : Int) = sy + keep := by omega
  refine bodyPost_ret (v := .tuple #[.agg #[.string (da.extract 0 (sy + keep).toNat), .int .i64 (sy + keep), .int .i64 ca, .bool false, .int .i64 (-1)], .int .i64 0]) (by simp [results, Try.results12, go_sem, hz0, hz1, d8, d9, d10, d11, d12, m1, m2]) rfl ⟨rfl, ?_⟩
  have hb2 := ((Below.refl w.heap.size w).alloc (Nat.le_refl _) _).alloc (by simp) _ |>.trans (hb.mono (by simp; omega))
  repeat (first | with_reducible exact hb2 | refine Below.setCell ?_ (by first | omega | (simp; done) | (simp; omega)) _)

set_option maxHeartbeats 1000000 in
theorem crash_big12 (h : okB da sy ca = true) (h1 : 0 ≤ keep) (h2 : (da.size : Int) - sy < keep) :
    Calls Try.prog 12 #[.agg #[.string da, .int .i64 sy, .int .i64 ca, .bool dn, .int .i64 fu], .int .i64 keep] w fun e w' => e = .returned (.tuple #[.agg #[.string (da.extract 0 (sy + ((da.size : Int) - sy)).toNat), .int .i64 (sy + ((da.size : Int) - sy)), .int .i64 ca, .bool false, .int .i64 (-1)], .int .i64 0]) ∧ Below w.heap.size w w' := by
  obtain ⟨g1, g2, g3, g4, g5⟩ := okB_true h
  have e1 : decide (keep < 0) = false := by simp; omega
  have e2 : decide ((da.size : Int) - sy < keep) = true := by simp; omega
  go_enter Try.func12, Try.ntmps12
  go_wp2_with (go_at_call 15; refine (check15_ok da sy ca dn fu _ h).mono ?_; rintro e w1 ⟨rfl, hb⟩; obtain ⟨⟨d0, d1, d2, d3, d4, d8, d9, d10, d11, d12⟩, u0, u2⟩ := two_cells hb; obtain ⟨hz0, hz1⟩ := size2 hb)
  have m1 : max sy 0 = sy := by omega
  have m2 : ((min (sy + ((da.size : Int) - sy)).toNat da.size : Nat) : Int) = sy + ((da.size : Int) - sy) := by omega
  refine bodyPost_ret (v := .tuple #[.agg #[.string (da.extract 0 (sy + ((da.size : Int) - sy)).toNat), .int .i64 (sy + ((da.size : Int) - sy)), .int .i64 ca, .bool false, .int .i64 (-1)], .int .i64 0]) (by simp [results, Try.results12, go_sem, hz0, hz1, d8, d9, d10, d11, d12, m1, m2]) rfl ⟨rfl, ?_⟩
  have hb2 := ((Below.refl w.heap.size w).alloc (Nat.le_refl _) _).alloc (by simp) _ |>.trans (hb.mono (by simp; omega))
  repeat (first | with_reducible exact hb2 | refine Below.setCell ?_ (by first | omega | (simp; done) | (simp; omega)) _)

set_option maxHeartbeats 1000000 in
theorem crash_bad13 (h : okB da sy ca = false)  :
    Calls Try.prog 13 #[.agg #[.string da, .int .i64 sy, .int .i64 ca, .bool dn, .int .i64 fu], .int .i64 keep] w fun e w' => e = .returned (.tuple #[.agg #[.string ⟨#[]⟩, .int .i64 0, .int .i64 0, .bool false, .int .i64 0], .int .i64 6]) ∧ Below w.heap.size w w' := by
  go_enter Try.func13, Try.ntmps13
  go_wp2_with (go_at_call 16; refine (check16_no da sy ca dn fu _ h).mono ?_; rintro e w1 ⟨rfl, hb⟩; obtain ⟨⟨d0, d1, d2, d3, d4, d8, d9, d10, d11, d12⟩, u0, u2⟩ := two_cells hb; obtain ⟨hz0, hz1⟩ := size2 hb)
  refine bodyPost_ret (v := .tuple #[.agg #[.string ⟨#[]⟩, .int .i64 0, .int .i64 0, .bool false, .int .i64 0], .int .i64 6]) (by simp [results, Try.results13, go_sem, hz0, hz1, d8, d9, d10, d11, d12]) rfl ⟨rfl, ?_⟩
  have hb2 := ((Below.refl w.heap.size w).alloc (Nat.le_refl _) _).alloc (by simp) _ |>.trans (hb.mono (by simp; omega))
  repeat (first | with_reducible exact hb2 | refine Below.setCell ?_ (by first | omega | (simp; done) | (simp; omega)) _)

set_option maxHeartbeats 1000000 in
theorem crash_neg13 (h : okB da sy ca = true) (h1 : keep < 0) :
    Calls Try.prog 13 #[.agg #[.string da, .int .i64 sy, .int .i64 ca, .bool dn, .int .i64 fu], .int .i64 keep] w fun e w' => e = .returned (.tuple #[.agg #[.string (da.extract 0 (sy).toNat), .int .i64 (sy), .int .i64 ca, .bool false, .int .i64 (-1)], .int .i64 0]) ∧ Below w.heap.size w w' := by
  obtain ⟨g1, g2, g3, g4, g5⟩ := okB_true h
  have e1 : decide (keep < 0) = true := by simp; omega
  have e4 : decide ((da.size : Int) - sy < 0) = false := by simp; omega
  go_enter Try.func13, Try.ntmps13
  go_wp2_with (go_at_call 16; refine (check16_ok da sy ca dn fu _ h).mono ?_; rintro e w1 ⟨rfl, hb⟩; obtain ⟨⟨d0, d1, d2, d3, d4, d8, d9, d10, d11, d12⟩, u0, u2⟩ := two_cells hb; obtain ⟨hz0, hz1⟩ := size2 hb)
  have m1 : max sy 0 = sy := by omega
  have m2 : ((min (sy).toNat da.size : Nat) : Int) = sy := by omega
  refine bodyPost_ret (v := .tuple #[.agg #[.string (da.extract 0 (sy).toNat), .int .i64 (sy), .int .i64 ca, .bool false, .int .i64 (-1)], .int .i64 0]) (by simp [results, Try.results13, go_sem, hz0, hz1, d8, d9, d10, d11, d12, m1, m2]) rfl ⟨rfl, ?_⟩
  have hb2 := ((Below.refl w.heap.size w).alloc (Nat.le_refl _) _).alloc (by simp) _ |>.trans (hb.mono (by simp; omega))
  repeat (first | with_reducible exact hb2 | refine Below.setCell ?_ (by first | omega | (simp; done) | (simp; omega)) _)

set_option maxHeartbeats 1000000 in
theorem crash_mid13 (h : okB da sy ca = true) (h1 : 0 ≤ keep) (h2 : keep ≤ (da.size : Int) - sy) :
    Calls Try.prog 13 #[.agg #[.string da, .int .i64 sy, .int .i64 ca, .bool dn, .int .i64 fu], .int .i64 keep] w fun e w' => e = .returned (.tuple #[.agg #[.string (da.extract 0 (sy + keep).toNat), .int .i64 (sy + keep), .int .i64 ca, .bool false, .int .i64 (-1)], .int .i64 0]) ∧ Below w.heap.size w w' := by
  obtain ⟨g1, g2, g3, g4, g5⟩ := okB_true h
  have e1 : decide (keep < 0) = false := by simp; omega
  have e2 : decide ((da.size : Int) - sy < keep) = false := by simp; omega
  go_enter Try.func13, Try.ntmps13
  go_wp2_with (go_at_call 16; refine (check16_ok da sy ca dn fu _ h).mono ?_; rintro e w1 ⟨rfl, hb⟩; obtain ⟨⟨d0, d1, d2, d3, d4, d8, d9, d10, d11, d12⟩, u0, u2⟩ := two_cells hb; obtain ⟨hz0, hz1⟩ := size2 hb)
  have m1 : max sy 0 = sy := by omega
  have m2 : ((min (sy + keep).toNat da.size : Nat) : Int) = sy + keep := by omega
  refine bodyPost_ret (v := .tuple #[.agg #[.string (da.extract 0 (sy + keep).toNat), .int .i64 (sy + keep), .int .i64 ca, .bool false, .int .i64 (-1)], .int .i64 0]) (by simp [results, Try.results13, go_sem, hz0, hz1, d8, d9, d10, d11, d12, m1, m2]) rfl ⟨rfl, ?_⟩
  have hb2 := ((Below.refl w.heap.size w).alloc (Nat.le_refl _) _).alloc (by simp) _ |>.trans (hb.mono (by simp; omega))
  repeat (first | with_reducible exact hb2 | refine Below.setCell ?_ (by first | omega | (simp; done) | (simp; omega)) _)

set_option maxHeartbeats 1000000 in
theorem crash_big13 (h : okB da sy ca = true) (h1 : 0 ≤ keep) (h2 : (da.size : Int) - sy < keep) :
    Calls Try.prog 13 #[.agg #[.string da, .int .i64 sy, .int .i64 ca, .bool dn, .int .i64 fu], .int .i64 keep] w fun e w' => e = .returned (.tuple #[.agg #[.string (da.extract 0 (sy + ((da.size : Int) - sy)).toNat), .int .i64 (sy + ((da.size : Int) - sy)), .int .i64 ca, .bool false, .int .i64 (-1)], .int .i64 0]) ∧ Below w.heap.size w w' := by
  obtain ⟨g1, g2, g3, g4, g5⟩ := okB_true h
  have e1 : decide (keep < 0) = false := by simp; omega
  have e2 : decide ((da.size : Int) - sy < keep) = true := by simp; omega
  go_enter Try.func13, Try.ntmps13
  go_wp2_with (go_at_call 16; refine (check16_ok da sy ca dn fu _ h).mono ?_; rintro e w1 ⟨rfl, hb⟩; obtain ⟨⟨d0, d1, d2, d3, d4, d8, d9, d10, d11, d12⟩, u0, u2⟩ := two_cells hb; obtain ⟨hz0, hz1⟩ := size2 hb)
  have m1 : max sy 0 = sy := by omega
  have m2 : ((min (sy + ((da.size : Int) - sy)).toNat da.size : Nat) : Int) = sy + ((da.size : Int) - sy) := by omega
  refine bodyPost_ret (v := .tuple #[.agg #[.string (da.extract 0 (sy + ((da.size : Int) - sy)).toNat), .int .i64 (sy + ((da.size : Int) - sy)), .int .i64 ca, .bool false, .int .i64 (-1)], .int .i64 0]) (by simp [results, Try.results13, go_sem, hz0, hz1, d8, d9, d10, d11, d12, m1, m2]) rfl ⟨rfl, ?_⟩
  have hb2 := ((Below.refl w.heap.size w).alloc (Nat.le_refl _) _).alloc (by simp) _ |>.trans (hb.mono (by simp; omega))
  repeat (first | with_reducible exact hb2 | refine Below.setCell ?_ (by first | omega | (simp; done) | (simp; omega)) _)

theorem crash12_any (d : Dk) (keep : Int) (w : World) :
    Calls Try.prog 12 #[.agg #[.string d.da, .int .i64 d.sy, .int .i64 d.ca, .bool d.dn, .int .i64 d.fu], .int .i64 keep] w fun e w' => e = .returned (.tuple #[(crashR d keep).1.v, .int .i64 (crashR d keep).2]) ∧ Below w.heap.size w w' := by
  obtain ⟨da, sy, ca, dn, fu⟩ := d
  unfold crashR
  simp only
  cases h : okB da sy ca
  · exact crash_bad12 da sy ca dn fu keep w h
  rw [if_neg (by simp)]
  obtain ⟨g1, g2, g3, g4, g5⟩ := okB_true h
  by_cases h1 : keep < 0
  · have e : kept ⟨da, sy, ca, dn, fu⟩ keep = sy := by unfold kept; simp only; omega
    rw [e]; exact crash_neg12 da sy ca dn fu keep w h h1
  by_cases h2 : keep ≤ (da.size : Int) - sy
  · have e : kept ⟨da, sy, ca, dn, fu⟩ keep = sy + keep := by unfold kept; simp only; omega
    rw [e]; exact crash_mid12 da sy ca dn fu keep w h (by omega) h2
  · have e : kept ⟨da, sy, ca, dn, fu⟩ keep = sy + ((da.size : Int) - sy) := by unfold kept; simp only; omega
    rw [e]; exact crash_big12 da sy ca dn fu keep w h (by omega) (by omega)

theorem crash13_any (d : Dk) (keep : Int) (w : World) :
    Calls Try.prog 13 #[.agg #[.string d.da, .int .i64 d.sy, .int .i64 d.ca, .bool d.dn, .int .i64 d.fu], .int .i64 keep] w fun e w' => e = .returned (.tuple #[(crashR d keep).1.v, .int .i64 (crashR d keep).2]) ∧ Below w.heap.size w w' := by
  obtain ⟨da, sy, ca, dn, fu⟩ := d
  unfold crashR
  simp only
  cases h : okB da sy ca
  · exact crash_bad13 da sy ca dn fu keep w h
  rw [if_neg (by simp)]
  obtain ⟨g1, g2, g3, g4, g5⟩ := okB_true h
  by_cases h1 : keep < 0
  · have e : kept ⟨da, sy, ca, dn, fu⟩ keep = sy := by unfold kept; simp only; omega
    rw [e]; exact crash_neg13 da sy ca dn fu keep w h h1
  by_cases h2 : keep ≤ (da.size : Int) - sy
  · have e : kept ⟨da, sy, ca, dn, fu⟩ keep = sy + keep := by unfold kept; simp only; omega
    rw [e]; exact crash_mid13 da sy ca dn fu keep w h (by omega) h2
  · have e : kept ⟨da, sy, ca, dn, fu⟩ keep = sy + ((da.size : Int) - sy) := by unfold kept; simp only; omega
    rw [e]; exact crash_big13 da sy ca dn fu keep w h (by omega) (by omega)

end
end Go.Proofs.Ythfmmkabfndbfaa
