/- DiskRefused: the walk. -/
import Derived.Test.YthfmmkabfndbfaaDg
import Derived.Lib.Hide
namespace Go.Proofs.Ythfmmkabfndbfaa
open Go.RowKit
set_option linter.unusedSimpArgs false
set_option linter.unusedVariables false

/-! ### what Do comes to: plain -/
theorem okB_mk {da : ByteArray} {sy ca : Int} (h1 : 0 ≤ ca) (h2 : ca ≤ 262144) (h3 : (da.size : Int) ≤ ca) (h4 : 0 ≤ sy) (h5 : sy ≤ (da.size : Int)) : okB da sy ca = true := decide_eq_true ⟨h1, h2, h3, h4, h5⟩
theorem doR_ok (d : Dk) (k : Int) (sd : ByteArray) (sz : Int) (h : (doR d k sd sz).2 = 0) : okB (doR d k sd sz).1.da (doR d k sd sz).1.sy (doR d k sd sz).1.ca = true ∧ (doR d k sd sz).1.ca = d.ca := by
  obtain ⟨da, sy, ca, dn, fu⟩ := d
  unfold doR at h ⊢
  simp only at h ⊢
  cases hb : okB da sy ca
  · rw [hb, if_pos rfl] at h; simp at h
  obtain ⟨g1, g2, g3, g4, g5⟩ := okB_true hb
  rw [hb, if_neg (by simp)] at h
  rw [if_neg (by simp)]
  by_cases ht : k = 0 ∨ 4 ≤ k
  · rw [if_pos ht] at h; simp at h
  rw [if_neg ht] at h ⊢
  cases dn with
  | true => rw [if_pos rfl] at h; simp at h
  | false =>
    rw [if_neg (by simp)] at h ⊢
    by_cases h1 : k = 1
    · rw [if_pos h1] at h ⊢
      by_cases h2 : ca - (da.size : Int) < (sd.size : Int)
      · rw [if_pos h2] at h; simp at h
      rw [if_neg h2] at h ⊢
      by_cases h3 : fu = 0
      · rw [if_pos h3] at h; simp at h
      rw [if_neg h3]
      exact ⟨okB_mk g1 g2 (by simp; omega) g4 (by simp; omega), rfl⟩
    rw [if_neg h1] at h ⊢
    by_cases h2 : k = 2
    · rw [if_pos h2] at h ⊢
      by_cases h3 : fu = 0
      · rw [if_pos h3] at h; simp at h
      rw [if_neg h3]
      exact ⟨okB_mk g1 g2 g3 (by simp only; omega) (by simp only; omega), rfl⟩
    rw [if_neg h2] at h ⊢
    by_cases h3 : sz < 0 ∨ (da.size : Int) < sz
    · rw [if_pos h3] at h; simp at h
    rw [if_neg h3] at h ⊢
    by_cases h4 : fu = 0
    · rw [if_pos h4] at h; simp at h
    rw [if_neg h4]
    exact ⟨okB_mk g1 g2 (by simp; omega) (by simp only; omega) (by simp; omega), rfl⟩
theorem doR_bad (d : Dk) (k : Int) (sd : ByteArray) (sz : Int) (h : okB d.da d.sy d.ca = false) : doR d k sd sz = (Dk.zero, 6) := by
  unfold doR; rw [if_pos h]
theorem doR_same (d : Dk) (k : Int) (sd : ByteArray) (sz : Int) (h : okB d.da d.sy d.ca = true) (h0 : (doR d k sd sz).2 ≠ 0) (h1 : (doR d k sd sz).2 ≠ 12 ∨ d.dn = true) : (doR d k sd sz).1 = d := by
  unfold doR at h0 h1 ⊢
  rw [if_neg (by simp [h])] at h0 h1 ⊢
  by_cases ht : k = 0 ∨ 4 ≤ k
  · rw [if_pos ht]
  rw [if_neg ht] at h0 h1 ⊢
  by_cases hd : d.dn = true
  · rw [if_pos hd]
  rw [if_neg hd] at h0 h1 ⊢
  have h1 := h1.resolve_right hd
  by_cases a1 : k = 1
  · rw [if_pos a1] at h0 h1 ⊢
    by_cases a2 : d.ca - (d.da.size : Int) < (sd.size : Int)
    · rw [if_pos a2]
    rw [if_neg a2] at h0 h1
    by_cases a3 : d.fu = 0
    · rw [if_pos a3] at h1; simp at h1
    · rw [if_neg a3] at h0; simp at h0
  rw [if_neg a1] at h0 h1 ⊢
  by_cases a2 : k = 2
  · rw [if_pos a2] at h0 h1 ⊢
    by_cases a3 : d.fu = 0
    · rw [if_pos a3] at h1; simp at h1
    · rw [if_neg a3] at h0; simp at h0
  rw [if_neg a2] at h0 h1 ⊢
  by_cases a3 : sz < 0 ∨ (d.da.size : Int) < sz
  · rw [if_pos a3]
  rw [if_neg a3] at h0 h1
  by_cases a4 : d.fu = 0
  · rw [if_pos a4] at h1; simp at h1
  · rw [if_neg a4] at h0; simp at h0
theorem doR_down (d : Dk) (k : Int) (sd : ByteArray) (sz : Int) (h : okB d.da d.sy d.ca = true) (h1 : (doR d k sd sz).2 = 12) (hd : d.dn = false) :
    ((doR d k sd sz).1.da = d.da ∨ (k = 1 ∧ (doR d k sd sz).1.da = d.da ++ sd ∧ d.da.size + sd.size ≤ 262144)) ∧ (doR d k sd sz).1.dn = true ∧ (doR d k sd sz).1.sy = d.sy ∧ (doR d k sd sz).1.ca = d.ca ∧ d.fu = 0 := by
  unfold doR at h1 ⊢
  rw [if_neg (by simp [h])] at h1 ⊢
  by_cases ht : k = 0 ∨ 4 ≤ k
  · rw [if_pos ht] at h1; simp at h1
  rw [if_neg ht, if_neg (by simp [hd])] at h1 ⊢
  by_cases a1 : k = 1
  · rw [if_pos a1] at h1 ⊢
    by_cases a2 : d.ca - (d.da.size : Int) < (sd.size : Int)
    · rw [if_pos a2] at h1; simp at h1
    rw [if_neg a2] at h1 ⊢
    by_cases a3 : d.fu = 0
    · rw [if_pos a3]; have hh := okB_true h; exact ⟨Or.inr ⟨a1, rfl, by omega⟩, rfl, rfl, rfl, a3⟩
    · rw [if_neg a3] at h1; simp at h1
  rw [if_neg a1] at h1 ⊢
  by_cases a2 : k = 2
  · rw [if_pos a2] at h1 ⊢
    by_cases a3 : d.fu = 0
    · rw [if_pos a3]; exact ⟨Or.inl rfl, rfl, rfl, rfl, a3⟩
    · rw [if_neg a3] at h1; simp at h1
  rw [if_neg a2] at h1 ⊢
  by_cases a3 : sz < 0 ∨ (d.da.size : Int) < sz
  · rw [if_pos a3] at h1; simp at h1
  rw [if_neg a3] at h1 ⊢
  by_cases a4 : d.fu = 0
  · rw [if_pos a4]; exact ⟨Or.inl rfl, rfl, rfl, rfl, a4⟩
  · rw [if_neg a4] at h1; simp at h1

theorem heap_last1 (w : World) (A B : Obj) : ((w.alloc A).alloc B).heap[w.heap.size + 1]? = some B := by simpa using heap_last (w.alloc A) B
theorem check15_at {da : ByteArray} {sy ca : Int} {dn : Bool} {fu : Int} {r : Int} (w : World) (h : errB (okB da sy ca) = r) :
    Calls Try.prog 15 #[.agg #[.string da, .int .i64 sy, .int .i64 ca, .bool dn, .int .i64 fu]] w fun e w' => e = .returned (.int .i64 r) ∧ Below w.heap.size w w' := by
  subst h; exact check15_any da sy ca dn fu w

section
variable (da : ByteArray) (sy ca : Int) (dn : Bool) (fu k : Int) (sd : ByteArray) (sz : Int) (ada : ByteArray) (asy aca : Int) (adn : Bool) (afu ae : Int) (w : World)

/-- what Do's call leaves -/
def Do8 : Prop := ∀ w, Calls Try.prog 8 #[.agg #[.string da, .int .i64 sy, .int .i64 ca, .bool dn, .int .i64 fu], .agg #[.int .u8 k, .string sd, .int .i64 sz]] w fun e w' => e = .returned (.tuple #[.agg #[.string ada, .int .i64 asy, .int .i64 aca, .bool adn, .int .i64 afu], .int .i64 ae]) ∧ Below w.heap.size w w'

set_option maxHeartbeats 1000000 in
set_option maxRecDepth 100000 in
theorem refused_ok (C8 : Do8 da sy ca dn fu k sd sz ada asy ca adn afu 0) (ho : errB (okB ada asy ca) = 0) :
    Calls Try.prog 5 #[.agg #[.string da, .int .i64 sy, .int .i64 ca, .bool dn, .int .i64 fu], .agg #[.int .u8 k, .string sd, .int .i64 sz]] w fun e w' => e = .returned (.bool true) ∧ Below w.heap.size w w' := by
  have HO := Lib.hid ho
  clear ho
  go_enter Try.func5, Try.ntmps5
  go_wp2_with fail
  refine (lives14 _).mono ?_
  rintro e w1 ⟨rfl, hb⟩
  have hD := below_call (B := w.heap.size) ((Below.refl w.heap.size w).alloc (Nat.le_refl _) _) (by simp) hb
  have hT := blk hb (blk_alloc (heap_last w _))
  have hU := blk hb (heap_last1 w _ _)
  clear hb
  have lT := lt_of_block hT
  obtain ⟨t0, t1, t2, t3, t4, t5⟩ := cells5 hT
  obtain ⟨s0, s1, s2, s3⟩ := cells3 hU
  go_wp2_with fail
  refine (C8 _).mono ?_
  rintro e w2 ⟨rfl, hb⟩
  replace hD := below_call0 hD hD.size hb
  replace hT := blk hb hT
  clear hb t0 t1 t2 t3 t4 t5 s0 s1 s2 s3 lT hU
  have lT := lt_of_block hT
  obtain ⟨t0, t1, t2, t3, t4, t5⟩ := cells5 hT
  go_wp2_with fail
  refine (check15_at _ HO.out).mono ?_
  rintro e w3 ⟨rfl, hb⟩
  have hA := blk hb (heap_last w2 _)
  replace hD := below_call hD hD.size hb
  replace hT := blk hb (blk_alloc hT)
  clear hb t0 t1 t2 t3 t4 t5 lT
  obtain ⟨t0, t1, t2, t3, t4, t5⟩ := cells5 hT
  obtain ⟨a0, a1, a2, a3, a4, a5⟩ := cells5 hA
  go_wp2
  go_ret
  exact ⟨rfl, hD⟩
set_option maxHeartbeats 1000000 in
set_option maxRecDepth 100000 in
theorem refused_bad (C8 : Do8 da sy ca dn fu k sd sz ⟨#[]⟩ 0 0 false 0 6) (ho : errB (okB da sy ca) = 6) :
    Calls Try.prog 5 #[.agg #[.string da, .int .i64 sy, .int .i64 ca, .bool dn, .int .i64 fu], .agg #[.int .u8 k, .string sd, .int .i64 sz]] w fun e w' => e = .returned (.bool true) ∧ Below w.heap.size w w' := by
  have HO := Lib.hid ho
  clear ho
  go_enter Try.func5, Try.ntmps5
  go_wp2_with fail
  refine (lives14 _).mono ?_
  rintro e w1 ⟨rfl, hb⟩
  have hD := below_call (B := w.heap.size) ((Below.refl w.heap.size w).alloc (Nat.le_refl _) _) (by simp) hb
  have hT := blk hb (blk_alloc (heap_last w _))
  have hU := blk hb (heap_last1 w _ _)
  clear hb
  have lT := lt_of_block hT
  obtain ⟨t0, t1, t2, t3, t4, t5⟩ := cells5 hT
  obtain ⟨s0, s1, s2, s3⟩ := cells3 hU
  go_wp2_with fail
  refine (C8 _).mono ?_
  rintro e w2 ⟨rfl, hb⟩
  replace hD := below_call0 hD hD.size hb
  replace hT := blk hb hT
  replace hU := blk hb hU
  clear hb t0 t1 t2 t3 t4 t5 s0 s1 s2 s3 lT
  have lT := lt_of_block hT
  obtain ⟨t0, t1, t2, t3, t4, t5⟩ := cells5 hT
  go_wp2_with fail
  refine (check15_at _ HO.out).mono ?_
  rintro e w3 ⟨rfl, hb⟩
  have hA := blk hb (heap_last w2 _)
  replace hD := below_call hD hD.size hb
  replace hT := blk hb (blk_alloc hT)
  replace hU := blk hb (blk_alloc hU)
  clear hb t0 t1 t2 t3 t4 t5 lT
  have lT := lt_of_block hT
  have lU := lt_of_block hU
  have lA := lt_of_block hA
  obtain ⟨t0, t1, t2, t3, t4, t5⟩ := cells5 hT
  obtain ⟨a0, a1, a2, a3, a4, a5⟩ := cells5 hA
  obtain ⟨s0, s1, s2, s3⟩ := cells3 hU
  go_wp2
  go_ret
  exact ⟨rfl, hD⟩

set_option maxHeartbeats 1000000 in
set_option maxRecDepth 100000 in
theorem refused_same (C8 : Do8 da sy ca dn fu k sd sz da sy ca dn fu ae) (ho : errB (okB da sy ca) = 0) (h0 : (ae == 0) = false) (h1 : (ae == 12) = false) (h2 : (ae != 12) = true) :
    Calls Try.prog 5 #[.agg #[.string da, .int .i64 sy, .int .i64 ca, .bool dn, .int .i64 fu], .agg #[.int .u8 k, .string sd, .int .i64 sz]] w fun e w' => e = .returned (.bool true) ∧ Below w.heap.size w w' := by
  have HO := Lib.hid ho
  clear ho
  go_enter Try.func5, Try.ntmps5
  go_wp2_with fail
  refine (lives14 _).mono ?_
  rintro e w1 ⟨rfl, hb⟩
  have hD := below_call (B := w.heap.size) ((Below.refl w.heap.size w).alloc (Nat.le_refl _) _) (by simp) hb
  have hT := blk hb (blk_alloc (heap_last w _))
  have hU := blk hb (heap_last1 w _ _)
  clear hb
  have lT := lt_of_block hT
  obtain ⟨t0, t1, t2, t3, t4, t5⟩ := cells5 hT
  obtain ⟨s0, s1, s2, s3⟩ := cells3 hU
  go_wp2_with fail
  refine (C8 _).mono ?_
  rintro e w2 ⟨rfl, hb⟩
  replace hD := below_call0 hD hD.size hb
  replace hT := blk hb hT
  replace hU := blk hb hU
  clear hb t0 t1 t2 t3 t4 t5 s0 s1 s2 s3 lT
  have lT := lt_of_block hT
  obtain ⟨t0, t1, t2, t3, t4, t5⟩ := cells5 hT
  go_wp2_with fail
  refine (check15_at _ HO.out).mono ?_
  rintro e w3 ⟨rfl, hb⟩
  have hA := blk hb (heap_last w2 _)
  replace hD := below_call hD hD.size hb
  replace hT := blk hb (blk_alloc hT)
  replace hU := blk hb (blk_alloc hU)
  clear hb t0 t1 t2 t3 t4 t5 lT
  have lT := lt_of_block hT
  have lU := lt_of_block hU
  have lA := lt_of_block hA
  obtain ⟨t0, t1, t2, t3, t4, t5⟩ := cells5 hT
  obtain ⟨a0, a1, a2, a3, a4, a5⟩ := cells5 hA
  obtain ⟨s0, s1, s2, s3⟩ := cells3 hU
  go_wp2
  go_ret
  exact ⟨rfl, hD⟩

set_option maxHeartbeats 1000000 in
set_option maxRecDepth 100000 in
theorem refused_off (C8 : Do8 da sy ca true fu k sd sz da sy ca true fu 12) (ho : errB (okB da sy ca) = 0) :
    Calls Try.prog 5 #[.agg #[.string da, .int .i64 sy, .int .i64 ca, .bool true, .int .i64 fu], .agg #[.int .u8 k, .string sd, .int .i64 sz]] w fun e w' => e = .returned (.bool true) ∧ Below w.heap.size w w' := by
  have HO := Lib.hid ho
  clear ho
  go_enter Try.func5, Try.ntmps5
  go_wp2_with fail
  refine (lives14 _).mono ?_
  rintro e w1 ⟨rfl, hb⟩
  have hD := below_call (B := w.heap.size) ((Below.refl w.heap.size w).alloc (Nat.le_refl _) _) (by simp) hb
  have hT := blk hb (blk_alloc (heap_last w _))
  have hU := blk hb (heap_last1 w _ _)
  clear hb
  have lT := lt_of_block hT
  obtain ⟨t0, t1, t2, t3, t4, t5⟩ := cells5 hT
  obtain ⟨s0, s1, s2, s3⟩ := cells3 hU
  go_wp2_with fail
  refine (C8 _).mono ?_
  rintro e w2 ⟨rfl, hb⟩
  replace hD := below_call0 hD hD.size hb
  replace hT := blk hb hT
  replace hU := blk hb hU
  clear hb t0 t1 t2 t3 t4 t5 s0 s1 s2 s3 lT
  have lT := lt_of_block hT
  obtain ⟨t0, t1, t2, t3, t4, t5⟩ := cells5 hT
  go_wp2_with fail
  refine (check15_at _ HO.out).mono ?_
  rintro e w3 ⟨rfl, hb⟩
  have hA := blk hb (heap_last w2 _)
  replace hD := below_call hD hD.size hb
  replace hT := blk hb (blk_alloc hT)
  replace hU := blk hb (blk_alloc hU)
  clear hb t0 t1 t2 t3 t4 t5 lT
  have lT := lt_of_block hT
  have lU := lt_of_block hU
  have lA := lt_of_block hA
  obtain ⟨t0, t1, t2, t3, t4, t5⟩ := cells5 hT
  obtain ⟨a0, a1, a2, a3, a4, a5⟩ := cells5 hA
  obtain ⟨s0, s1, s2, s3⟩ := cells3 hU
  go_wp2
  go_ret
  exact ⟨rfl, hD⟩

set_option maxHeartbeats 1000000 in
set_option maxRecDepth 100000 in
theorem refused_left (C8 : Do8 da sy ca false 0 k sd sz da sy ca true afu 12) (ho : errB (okB da sy ca) = 0) :
    Calls Try.prog 5 #[.agg #[.string da, .int .i64 sy, .int .i64 ca, .bool false, .int .i64 0], .agg #[.int .u8 k, .string sd, .int .i64 sz]] w fun e w' => e = .returned (.bool true) ∧ Below w.heap.size w w' := by
  have HO := Lib.hid ho
  clear ho
  go_enter Try.func5, Try.ntmps5
  go_wp2_with fail
  refine (lives14 _).mono ?_
  rintro e w1 ⟨rfl, hb⟩
  have hD := below_call (B := w.heap.size) ((Below.refl w.heap.size w).alloc (Nat.le_refl _) _) (by simp) hb
  have hT := blk hb (blk_alloc (heap_last w _))
  have hU := blk hb (heap_last1 w _ _)
  clear hb
  have lT := lt_of_block hT
  obtain ⟨t0, t1, t2, t3, t4, t5⟩ := cells5 hT
  obtain ⟨s0, s1, s2, s3⟩ := cells3 hU
  go_wp2_with fail
  refine (C8 _).mono ?_
  rintro e w2 ⟨rfl, hb⟩
  replace hD := below_call0 hD hD.size hb
  replace hT := blk hb hT
  replace hU := blk hb hU
  clear hb t0 t1 t2 t3 t4 t5 s0 s1 s2 s3 lT
  have lT := lt_of_block hT
  obtain ⟨t0, t1, t2, t3, t4, t5⟩ := cells5 hT
  go_wp2_with fail
  refine (check15_at _ HO.out).mono ?_
  rintro e w3 ⟨rfl, hb⟩
  have hA := blk hb (heap_last w2 _)
  replace hD := below_call hD hD.size hb
  replace hT := blk hb (blk_alloc hT)
  replace hU := blk hb (blk_alloc hU)
  clear hb t0 t1 t2 t3 t4 t5 lT
  have lT := lt_of_block hT
  have lU := lt_of_block hU
  have lA := lt_of_block hA
  obtain ⟨t0, t1, t2, t3, t4, t5⟩ := cells5 hT
  obtain ⟨a0, a1, a2, a3, a4, a5⟩ := cells5 hA
  obtain ⟨s0, s1, s2, s3⟩ := cells3 hU
  go_wp2
  go_ret
  exact ⟨rfl, hD⟩

set_option maxHeartbeats 1000000 in
set_option maxRecDepth 100000 in
theorem refused_more (C8 : Do8 da sy ca false 0 1 sd sz (da ++ sd) sy ca true afu 12) (ho : errB (okB da sy ca) = 0) (he : ((da ++ sd).toList == da.toList) = false) (hs : da.size + sd.size ≤ 262144) :
    Calls Try.prog 5 #[.agg #[.string da, .int .i64 sy, .int .i64 ca, .bool false, .int .i64 0], .agg #[.int .u8 1, .string sd, .int .i64 sz]] w fun e w' => e = .returned (.bool true) ∧ Below w.heap.size w w' := by
  have HO := Lib.hid ho
  clear ho
  go_enter Try.func5, Try.ntmps5
  go_wp2_with fail
  refine (lives14 _).mono ?_
  rintro e w1 ⟨rfl, hb⟩
  have hD := below_call (B := w.heap.size) ((Below.refl w.heap.size w).alloc (Nat.le_refl _) _) (by simp) hb
  have hT := blk hb (blk_alloc (heap_last w _))
  have hU := blk hb (heap_last1 w _ _)
  clear hb
  have lT := lt_of_block hT
  obtain ⟨t0, t1, t2, t3, t4, t5⟩ := cells5 hT
  obtain ⟨s0, s1, s2, s3⟩ := cells3 hU
  go_wp2_with fail
  refine (C8 _).mono ?_
  rintro e w2 ⟨rfl, hb⟩
  replace hD := below_call0 hD hD.size hb
  replace hT := blk hb hT
  replace hU := blk hb hU
  clear hb t0 t1 t2 t3 t4 t5 s0 s1 s2 s3 lT
  have lT := lt_of_block hT
  obtain ⟨t0, t1, t2, t3, t4, t5⟩ := cells5 hT
  go_wp2_with fail
  refine (check15_at _ HO.out).mono ?_
  rintro e w3 ⟨rfl, hb⟩
  have hA := blk hb (heap_last w2 _)
  replace hD := below_call hD hD.size hb
  replace hT := blk hb (blk_alloc hT)
  replace hU := blk hb (blk_alloc hU)
  clear hb t0 t1 t2 t3 t4 t5 lT
  have lT := lt_of_block hT
  have lU := lt_of_block hU
  have lA := lt_of_block hA
  obtain ⟨t0, t1, t2, t3, t4, t5⟩ := cells5 hT
  obtain ⟨a0, a1, a2, a3, a4, a5⟩ := cells5 hA
  obtain ⟨s0, s1, s2, s3⟩ := cells3 hU
  go_wp2
  go_ret
  exact ⟨rfl, hD⟩


theorem refused5 (hk : 0 ≤ k) (hu : fu ≤ 9223372036854775807) :
    Calls Try.prog 5 #[.agg #[.string da, .int .i64 sy, .int .i64 ca, .bool dn, .int .i64 fu], .agg #[.int .u8 k, .string sd, .int .i64 sz]] w fun e w' => e = .returned (.bool true) ∧ Below w.heap.size w w' := by
  obtain ⟨⟨⟨ada, asy, aca, adn, afu⟩, ae⟩, hA⟩ : ∃ r, doR ⟨da, sy, ca, dn, fu⟩ k sd sz = r := ⟨_, rfl⟩
  have C8 : Do8 da sy ca dn fu k sd sz ada asy aca adn afu ae := fun w => by
    have := do8_any ⟨da, sy, ca, dn, fu⟩ k sd sz w hk hu; rw [hA] at this; exact this
  by_cases h0 : ae = 0
  · subst h0
    obtain ⟨p1, p2⟩ := doR_ok ⟨da, sy, ca, dn, fu⟩ k sd sz (by rw [hA])
    rw [hA] at p1 p2
    simp only at p1 p2
    subst p2
    exact refused_ok da sy aca dn fu k sd sz ada asy adn afu w C8 (by rw [p1]; rfl)
  cases hb : okB da sy ca with
  | false =>
    have := doR_bad ⟨da, sy, ca, dn, fu⟩ k sd sz hb
    rw [hA] at this
    simp only [Dk.zero, Prod.mk.injEq, Dk.mk.injEq] at this
    obtain ⟨⟨rfl, rfl, rfl, rfl, rfl⟩, rfl⟩ := this
    exact refused_bad da sy ca dn fu k sd sz w C8 (by rw [hb]; rfl)
  | true =>
    have ho : errB (okB da sy ca) = 0 := by rw [hb]; rfl
    by_cases h1 : ae ≠ 12 ∨ dn = true
    · have := doR_same ⟨da, sy, ca, dn, fu⟩ k sd sz hb (by rw [hA]; exact h0) (by rw [hA]; exact h1)
      rw [hA] at this
      simp only [Dk.mk.injEq] at this
      obtain ⟨rfl, rfl, rfl, rfl, rfl⟩ := this
      by_cases h2 : ae = 12
      · subst h2
        have hd : adn = true := h1.resolve_left (by simp)
        subst hd
        exact refused_off ada asy aca afu k sd sz w C8 ho
      · exact refused_same ada asy aca adn afu k sd sz ae w C8 ho (by simp; omega) (by simp; omega) (by simp; omega)
    · have h12 : ae = 12 := by omega
      have hd : dn = false := by cases dn with | true => exact absurd (Or.inr rfl) h1 | false => rfl
      subst h12 hd
      obtain ⟨q1, q2, q3, q4, q5⟩ := doR_down ⟨da, sy, ca, false, fu⟩ k sd sz hb (by rw [hA]) rfl
      rw [hA] at q1 q2 q3 q4
      simp only at q1 q2 q3 q4 q5
      subst q2 q3 q4 q5
      rcases q1 with rfl | ⟨rfl, rfl, hs⟩
      · exact refused_left ada asy aca k sd sz afu w C8 ho
      · cases he : ((da ++ sd).toList == da.toList) with
        | false => exact refused_more da asy aca sd sz afu w C8 ho he hs
        | true =>
          have e : da ++ sd = da := by
            have := eq_of_beq he
            rw [ByteArray.toList_eq, ByteArray.toList_eq] at this
            exact ByteArray.ext (Array.ext' this)
          rw [e] at C8
          exact refused_left da asy aca 1 sd sz afu w C8 ho
end
end Go.Proofs.Ythfmmkabfndbfaa
