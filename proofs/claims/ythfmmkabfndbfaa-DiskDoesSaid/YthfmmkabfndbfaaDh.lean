/- DiskDoes: the walk. -/
import Derived.Test.YthfmmkabfndbfaaDg
import Derived.Lib.Hide
namespace Go.Proofs.Ythfmmkabfndbfaa
open Go.RowKit
set_option linter.unusedSimpArgs false
set_option linter.unusedVariables false

theorem keepC {W w' : World} {b o : Nat} {v : Value} (hb : Below W.heap.size W w') (h : W.cell? ⟨b, o, none⟩ = some v) : w'.cell? ⟨b, o, none⟩ = some v := by
  have hlt : b < W.heap.size := by
    rcases Nat.lt_or_ge b W.heap.size with h' | h'
    · exact h'
    · simp [World.cell?, Array.getElem?_eq_none h'] at h
  exact (hb.cell (p := ⟨b, o, none⟩) hlt).trans h
theorem heap_last1 (w : World) (A B : Obj) : ((w.alloc A).alloc B).heap[w.heap.size + 1]? = some B := by simpa using heap_last (w.alloc A) B
theorem lives14_at (w : World) : Calls Try.prog 14 #[] w fun e w' => e = .returned (.bool true) ∧ Below w.heap.size w w' := lives14 w

set_option maxHeartbeats 2000000 in
set_option maxRecDepth 100000 in
theorem does3 (da : ByteArray) (sy ca : Int) (dn : Bool) (fu k : Int) (sd : ByteArray) (sz keep : Int) (w : World) (hk : 0 ≤ k) (hu : fu ≤ 9223372036854775807) :
    Calls Try.prog 3 #[.agg #[.string da, .int .i64 sy, .int .i64 ca, .bool dn, .int .i64 fu], .agg #[.int .u8 k, .string sd, .int .i64 sz], .int .i64 keep] w fun e w' => e = .returned (.bool true) ∧ Below w.heap.size w w' := by
  obtain ⟨⟨⟨ada, asy, aca, adn, afu⟩, ae⟩, hA⟩ : ∃ r, doR ⟨da, sy, ca, dn, fu⟩ k sd sz = r := ⟨_, rfl⟩
  obtain ⟨⟨⟨bda, bsy, bca, bdn, bfu⟩, be⟩, hB⟩ : ∃ r, crashR ⟨da, sy, ca, dn, fu⟩ keep = r := ⟨_, rfl⟩
  obtain ⟨rs, hrs⟩ : ∃ r, readS ⟨da, sy, ca, dn, fu⟩ = r := ⟨_, rfl⟩
  obtain ⟨re, hre⟩ : ∃ r, readE ⟨da, sy, ca, dn, fu⟩ = r := ⟨_, rfl⟩
  obtain ⟨ck, hck⟩ : ∃ r, errB (okB da sy ca) = r := ⟨_, rfl⟩
  have c8 : ∀ w, Calls Try.prog 8 #[.agg #[.string da, .int .i64 sy, .int .i64 ca, .bool dn, .int .i64 fu], .agg #[.int .u8 k, .string sd, .int .i64 sz]] w fun e w' => e = .returned (.tuple #[.agg #[.string ada, .int .i64 asy, .int .i64 aca, .bool adn, .int .i64 afu], .int .i64 ae]) ∧ Below w.heap.size w w' := fun w => by
    have := do8_any ⟨da, sy, ca, dn, fu⟩ k sd sz w hk hu; rw [hA] at this; exact this
  have c9 : ∀ w, Calls Try.prog 9 #[.agg #[.string da, .int .i64 sy, .int .i64 ca, .bool dn, .int .i64 fu], .agg #[.int .u8 k, .string sd, .int .i64 sz]] w fun e w' => e = .returned (.tuple #[.agg #[.string ada, .int .i64 asy, .int .i64 aca, .bool adn, .int .i64 afu], .int .i64 ae]) ∧ Below w.heap.size w w' := fun w => by
    have := do9_any ⟨da, sy, ca, dn, fu⟩ k sd sz w hk hu; rw [hA] at this; exact this
  have c12 : ∀ w, Calls Try.prog 12 #[.agg #[.string da, .int .i64 sy, .int .i64 ca, .bool dn, .int .i64 fu], .int .i64 keep] w fun e w' => e = .returned (.tuple #[.agg #[.string bda, .int .i64 bsy, .int .i64 bca, .bool bdn, .int .i64 bfu], .int .i64 be]) ∧ Below w.heap.size w w' := fun w => by
    have := crash12_any ⟨da, sy, ca, dn, fu⟩ keep w; rw [hB] at this; exact this
  have c13 : ∀ w, Calls Try.prog 13 #[.agg #[.string da, .int .i64 sy, .int .i64 ca, .bool dn, .int .i64 fu], .int .i64 keep] w fun e w' => e = .returned (.tuple #[.agg #[.string bda, .int .i64 bsy, .int .i64 bca, .bool bdn, .int .i64 bfu], .int .i64 be]) ∧ Below w.heap.size w w' := fun w => by
    have := crash13_any ⟨da, sy, ca, dn, fu⟩ keep w; rw [hB] at this; exact this
  have c10 : ∀ w, Calls Try.prog 10 #[.agg #[.string da, .int .i64 sy, .int .i64 ca, .bool dn, .int .i64 fu]] w fun e w' => e = .returned (.tuple #[.string rs, .int .i64 re]) ∧ Below w.heap.size w w' := fun w => by
    subst hrs hre; exact read10_any da sy ca dn fu w
  have c11 : ∀ w, Calls Try.prog 11 #[.agg #[.string da, .int .i64 sy, .int .i64 ca, .bool dn, .int .i64 fu]] w fun e w' => e = .returned (.tuple #[.string rs, .int .i64 re]) ∧ Below w.heap.size w w' := fun w => by
    subst hrs hre; exact read11_any da sy ca dn fu w
  have c15 : ∀ w, Calls Try.prog 15 #[.agg #[.string da, .int .i64 sy, .int .i64 ca, .bool dn, .int .i64 fu]] w fun e w' => e = .returned (.int .i64 ck) ∧ Below w.heap.size w w' := fun w => by
    subst hck; exact check15_any da sy ca dn fu w
  have c16 : ∀ w, Calls Try.prog 16 #[.agg #[.string da, .int .i64 sy, .int .i64 ca, .bool dn, .int .i64 fu]] w fun e w' => e = .returned (.int .i64 ck) ∧ Below w.heap.size w w' := fun w => by
    subst hck; exact check16_any da sy ca dn fu w
  clear hA hB hrs hre hck
  have C8 := Lib.hid c8; have C9 := Lib.hid c9; have C10 := Lib.hid c10; have C11 := Lib.hid c11; have C12 := Lib.hid c12; have C13 := Lib.hid c13; have C15 := Lib.hid c15; have C16 := Lib.hid c16
  clear c8 c9 c10 c11 c12 c13 c15 c16
  go_enter Try.func3, Try.ntmps3
  go_wp2_with fail
  refine (C8.out _).mono ?_
  rintro e w1 ⟨rfl, hb⟩
  have hD := below_call ((Below.refl w.heap.size w).alloc (Nat.le_refl _) _) (by simp) hb
  have hT := blk hb (blk_alloc (heap_last w _))
  have hU := blk hb (heap_last1 w _ _)
  clear hb
  have lT := lt_of_block hT
  have lU := lt_of_block hU
  obtain ⟨t0, t1, t2, t3, t4, t5⟩ := cells5 hT
  obtain ⟨s0, s1, s2, s3⟩ := cells3 hU
  go_wp2_with fail
  refine (C9.out _).mono ?_
  rintro e w2 ⟨rfl, hb⟩
  replace hD := below_call hD hD.size hb
  have hA := blk hb (heap_last w1 _)
  replace hT := blk hb (blk_alloc hT)
  replace hU := blk hb (blk_alloc hU)
  clear hb t0 t1 t2 t3 t4 t5 s0 s1 s2 s3 lT lU
  have lT := lt_of_block hT
  have lA := lt_of_block hA
  obtain ⟨t0, t1, t2, t3, t4, t5⟩ := cells5 hT
  go_wp2_with fail
  refine (C10.out _).mono ?_
  rintro e w3 ⟨rfl, hb⟩
  replace hD := below_call hD hD.size hb
  have hB := blk hb (heap_last w2 _)
  replace hT := blk hb (blk_alloc hT)
  replace hA := blk hb (blk_alloc hA)
  clear hb t0 t1 t2 t3 t4 t5 lT lA
  have lT := lt_of_block hT
  obtain ⟨t0, t1, t2, t3, t4, t5⟩ := cells5 hT
  go_wp2_with fail
  refine (C11.out _).mono ?_
  rintro e w4 ⟨rfl, hb⟩
  replace hD := below_call0 hD hD.size hb
  replace hT := blk hb hT
  replace hA := blk hb hA
  replace hB := blk hb hB
  clear hb t0 t1 t2 t3 t4 t5 lT
  have lT := lt_of_block hT
  obtain ⟨t0, t1, t2, t3, t4, t5⟩ := cells5 hT
  go_wp2_with fail
  refine (C12.out _).mono ?_
  rintro e w5 ⟨rfl, hb⟩
  replace hD := below_call0 hD hD.size hb
  replace hT := blk hb hT
  replace hA := blk hb hA
  replace hB := blk hb hB
  clear hb t0 t1 t2 t3 t4 t5 lT
  have lT := lt_of_block hT
  have lA := lt_of_block hA
  have lB := lt_of_block hB
  obtain ⟨t0, t1, t2, t3, t4, t5⟩ := cells5 hT
  go_wp2_with fail
  refine (C13.out _).mono ?_
  rintro e w6 ⟨rfl, hb⟩
  replace hD := below_call hD hD.size hb
  have hF := blk hb (heap_last w5 _)
  replace hT := blk hb (blk_alloc hT)
  replace hA := blk hb (blk_alloc hA)
  replace hB := blk hb (blk_alloc hB)
  clear hb t0 t1 t2 t3 t4 t5 lT lA lB
  have hG := heap_last w6 (.cells #[.string bda, .int .i64 bsy, .int .i64 bca, .bool bdn, .int .i64 bfu] 23)
  replace hT := blk_alloc (O := .cells #[.string bda, .int .i64 bsy, .int .i64 bca, .bool bdn, .int .i64 bfu] 23) hT
  replace hA := blk_alloc (O := .cells #[.string bda, .int .i64 bsy, .int .i64 bca, .bool bdn, .int .i64 bfu] 23) hA
  replace hB := blk_alloc (O := .cells #[.string bda, .int .i64 bsy, .int .i64 bca, .bool bdn, .int .i64 bfu] 23) hB
  replace hF := blk_alloc (O := .cells #[.string bda, .int .i64 bsy, .int .i64 bca, .bool bdn, .int .i64 bfu] 23) hF
  replace hD := hD.alloc hD.size (.cells #[.string bda, .int .i64 bsy, .int .i64 bca, .bool bdn, .int .i64 bfu] 23)
  go_wp2_with fail
  generalize w6.alloc (.cells #[.string bda, .int .i64 bsy, .int .i64 bca, .bool bdn, .int .i64 bfu] 23) = W at *
  obtain ⟨c0, c1, c2, c3, c4, e0⟩ := cells5 hT
  obtain ⟨c5, c6, c7, c8, c9, e1⟩ := cells5 hA
  obtain ⟨c10, c11, c12, c13, c14, e2⟩ := cells5 hB
  obtain ⟨c15, c16, c17, c18, c19, e3⟩ := cells5 hF
  obtain ⟨c20, c21, c22, c23, c24, e4⟩ := cells5 hG
  clear hT hA hB hF hG
  go_cut [6] (fun s6 wx => s6 = .bool true ∧ Below w.heap.size w wx)
  case first =>
    go_region_held3 (fun w' => w'.cell? ⟨w.heap.size, 0, none⟩ = some (.string da) ∧ w'.cell? ⟨w.heap.size, 1, none⟩ = some (.int .i64 sy) ∧ w'.cell? ⟨w.heap.size, 2, none⟩ = some (.int .i64 ca) ∧ w'.cell? ⟨w.heap.size, 3, none⟩ = some (.bool dn) ∧ w'.cell? ⟨w.heap.size, 4, none⟩ = some (.int .i64 fu) ∧ w'.cell? ⟨w1.heap.size, 0, none⟩ = some (.string ada) ∧ w'.cell? ⟨w1.heap.size, 1, none⟩ = some (.int .i64 asy) ∧ w'.cell? ⟨w1.heap.size, 2, none⟩ = some (.int .i64 aca) ∧ w'.cell? ⟨w1.heap.size, 3, none⟩ = some (.bool adn) ∧ w'.cell? ⟨w1.heap.size, 4, none⟩ = some (.int .i64 afu) ∧ w'.cell? ⟨w2.heap.size, 0, none⟩ = some (.string ada) ∧ w'.cell? ⟨w2.heap.size, 1, none⟩ = some (.int .i64 asy) ∧ w'.cell? ⟨w2.heap.size, 2, none⟩ = some (.int .i64 aca) ∧ w'.cell? ⟨w2.heap.size, 3, none⟩ = some (.bool adn) ∧ w'.cell? ⟨w2.heap.size, 4, none⟩ = some (.int .i64 afu) ∧ w'.cell? ⟨w5.heap.size, 0, none⟩ = some (.string bda) ∧ w'.cell? ⟨w5.heap.size, 1, none⟩ = some (.int .i64 bsy) ∧ w'.cell? ⟨w5.heap.size, 2, none⟩ = some (.int .i64 bca) ∧ w'.cell? ⟨w5.heap.size, 3, none⟩ = some (.bool bdn) ∧ w'.cell? ⟨w5.heap.size, 4, none⟩ = some (.int .i64 bfu) ∧ w'.cell? ⟨w6.heap.size, 0, none⟩ = some (.string bda) ∧ w'.cell? ⟨w6.heap.size, 1, none⟩ = some (.int .i64 bsy) ∧ w'.cell? ⟨w6.heap.size, 2, none⟩ = some (.int .i64 bca) ∧ w'.cell? ⟨w6.heap.size, 3, none⟩ = some (.bool bdn) ∧ w'.cell? ⟨w6.heap.size, 4, none⟩ = some (.int .i64 bfu) ∧ Below w.heap.size w w') (first | (have hS := ‹_ ∧ _›; exact ⟨keepC hb (hS.1), keepC hb (hS.2.1), keepC hb (hS.2.2.1), keepC hb (hS.2.2.2.1), keepC hb (hS.2.2.2.2.1), keepC hb (hS.2.2.2.2.2.1), keepC hb (hS.2.2.2.2.2.2.1), keepC hb (hS.2.2.2.2.2.2.2.1), keepC hb (hS.2.2.2.2.2.2.2.2.1), keepC hb (hS.2.2.2.2.2.2.2.2.2.1), keepC hb (hS.2.2.2.2.2.2.2.2.2.2.1), keepC hb (hS.2.2.2.2.2.2.2.2.2.2.2.1), keepC hb (hS.2.2.2.2.2.2.2.2.2.2.2.2.1), keepC hb (hS.2.2.2.2.2.2.2.2.2.2.2.2.2.1), keepC hb (hS.2.2.2.2.2.2.2.2.2.2.2.2.2.2.1), keepC hb (hS.2.2.2.2.2.2.2.2.2.2.2.2.2.2.2.1), keepC hb (hS.2.2.2.2.2.2.2.2.2.2.2.2.2.2.2.2.1), keepC hb (hS.2.2.2.2.2.2.2.2.2.2.2.2.2.2.2.2.2.1), keepC hb (hS.2.2.2.2.2.2.2.2.2.2.2.2.2.2.2.2.2.2.1), keepC hb (hS.2.2.2.2.2.2.2.2.2.2.2.2.2.2.2.2.2.2.2.1), keepC hb (hS.2.2.2.2.2.2.2.2.2.2.2.2.2.2.2.2.2.2.2.2.1), keepC hb (hS.2.2.2.2.2.2.2.2.2.2.2.2.2.2.2.2.2.2.2.2.2.1), keepC hb (hS.2.2.2.2.2.2.2.2.2.2.2.2.2.2.2.2.2.2.2.2.2.2.1), keepC hb (hS.2.2.2.2.2.2.2.2.2.2.2.2.2.2.2.2.2.2.2.2.2.2.2.1), keepC hb (hS.2.2.2.2.2.2.2.2.2.2.2.2.2.2.2.2.2.2.2.2.2.2.2.2.1), below_call0 (hS.2.2.2.2.2.2.2.2.2.2.2.2.2.2.2.2.2.2.2.2.2.2.2.2.2) (hS.2.2.2.2.2.2.2.2.2.2.2.2.2.2.2.2.2.2.2.2.2.2.2.2.2).size hb⟩) | exact ⟨c0, c1, c2, c3, c4, c5, c6, c7, c8, c9, c10, c11, c12, c13, c14, c15, c16, c17, c18, c19, c20, c21, c22, c23, c24, hD.drew⟩)
      (first | (go_at_call 14; refine (lives14_at _).mono ?_; rintro e w7 ⟨rfl, hb⟩) | (go_at_call 15; refine (C15.out _).mono ?_; rintro e w8 ⟨rfl, hb⟩) | (go_at_call 16; refine (C16.out _).mono ?_; rintro e w9 ⟨rfl, hb⟩))
    all_goals (go_wp2_with fail; go_meet; have hS := ‹_ ∧ _›; exact ⟨rfl, hS.2.2.2.2.2.2.2.2.2.2.2.2.2.2.2.2.2.2.2.2.2.2.2.2.2⟩)
  case rest =>
    obtain ⟨rfl, hx⟩ := hcut
    go_wp2
    go_ret
    exact ⟨rfl, hx⟩
end Go.Proofs.Ythfmmkabfndbfaa
