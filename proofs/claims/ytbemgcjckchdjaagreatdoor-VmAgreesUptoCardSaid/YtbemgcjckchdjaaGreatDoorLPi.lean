import Derived.Test.YtbemgcjckchdjaaGreatDoorLPg
import Derived.Deep.RegionWith
/- parse.Takes. -/
namespace Go.Proofs.YtbemgcjckchdjaaGreatDoor
open Go.RowKit
set_option linter.unusedSimpArgs false
set_option linter.unusedVariables false
set_option maxHeartbeats 2000000 in
set_option maxRecDepth 100000 in
theorem N1 (t : ByteArray) (n : Int) (w : World) (hs : t.size ≤ LIM) (hL : Laid w) (y1 : decide (0 ≤ n) = true) (y2 : decide (n ≤ 64) = true) (z : DE t n = false) : Calls Tryz.prog 20 #[.agg #[.int .u8 8, .string t, .int .i64 n]] w fun e w' => e = .returned (.tuple #[.int .i64 0, .bool false]) ∧ Below w.heap.size w w' := by
 have e0 : (⟨#[]⟩ : ByteArray).toList = [] := by rw [ByteArray.toList_eq]
 have HPC : Hid (∀ w' : World, Below w.heap.size w w' → Calls Tryz.prog 40 #[.string t, .int .i64 n] w' fun e w2 => e = .returned (.bool false) ∧ Below w'.heap.size w' w2 ∧ Below w.heap.size w w2) := Lib.hid (fun w' hb => (GU t n w' hs (hL.below hb)).mono fun e w2 ⟨h1, h2⟩ => ⟨by rw [h1, z], h2, Aa hb hb.size h2⟩)
 clear hL z
 go_enter Tryz.func20, Tryz.ntmps20
 go_wp2_with fail
 have hS := Af (o := .cells #[.int .u8 8, .string ⟨#[]⟩, .int .i64 0] 43) (Ab w (.cells #[.int .u8 8, .string t, .int .i64 n] 43))
 have hB := Ab (w.alloc (.cells #[.int .u8 8, .string t, .int .i64 n] 43)) (.cells #[.int .u8 8, .string ⟨#[]⟩, .int .i64 0] 43)
 have hD := Aj (w := w) (.cells #[.int .u8 8, .string t, .int .i64 n] 43) (.cells #[.int .u8 8, .string ⟨#[]⟩, .int .i64 0] 43)
 have esz : (w.alloc (.cells #[.int .u8 8, .string t, .int .i64 n] 43)).heap.size = w.heap.size + 1 := by simp
 rw [esz] at hB
 generalize (w.alloc (.cells #[.int .u8 8, .string t, .int .i64 n] 43)).alloc (.cells #[.int .u8 8, .string ⟨#[]⟩, .int .i64 0] 43) = W at *
 obtain ⟨s0, s1, s2, s3⟩ := Ak hS
 obtain ⟨b0, b1, b2, b3⟩ := Ak hB
 have HS := Lib.hid hS
 have HB := Lib.hid hB
 have HD := Lib.hid hD
 clear hS hB hD esz
 have lB := lt_of_block HB.out
 have lS := lt_of_block HS.out
 go_quiet (fail)
 have hBd : (W.drewN (nq + 1)).heap[w.heap.size + 1]? = some (.cells #[.int .u8 8, .string ⟨#[]⟩, .int .i64 0] 43 (0, 0)) := HB.out
 have hBs : ((W.setCells (w.heap.size + 1) 0 [.int .u8 8, .string t, .int .i64 n]).drewN (nq + 1)).heap[w.heap.size + 1]? = some (.cells #[.int .u8 8, .string t, .int .i64 n] 43 (0, 0)) := heap_setCell_same _ _ 2 _ _ _ (heap_setCell_same _ _ 1 _ _ _ (heap_setCell_same _ _ 0 _ _ _ HB.out))
 have hSd : (W.drewN (nq + 1)).heap[w.heap.size]? = some (.cells #[.int .u8 8, .string t, .int .i64 n] 43 (0, 0)) := HS.out
 have hSs : ((W.setCells (w.heap.size + 1) 0 [.int .u8 8, .string t, .int .i64 n]).drewN (nq + 1)).heap[w.heap.size]? = some (.cells #[.int .u8 8, .string t, .int .i64 n] 43 (0, 0)) := B7 (by omega) [_, _, _] 0 _ HS.out
 obtain ⟨d0, d1, d2, d3⟩ := Ak hSd
 obtain ⟨f0, f1, f2, f3⟩ := Ak hSs
 have HBD := Lib.hid hBd
 have HBS := Lib.hid hBs
 have HSD : Hid ((W.drewN (nq + 1)).cell? ⟨w.heap.size, 0, none⟩ = some (.int .u8 8) ∧ (W.drewN (nq + 1)).cell? ⟨w.heap.size, 1, none⟩ = some (.string t) ∧ (W.drewN (nq + 1)).cell? ⟨w.heap.size, 2, none⟩ = some (.int .i64 n)) := Lib.hid ⟨d0, d1, d2⟩
 have HSS : Hid (((W.setCells (w.heap.size + 1) 0 [.int .u8 8, .string t, .int .i64 n]).drewN (nq + 1)).cell? ⟨w.heap.size, 0, none⟩ = some (.int .u8 8) ∧ ((W.setCells (w.heap.size + 1) 0 [.int .u8 8, .string t, .int .i64 n]).drewN (nq + 1)).cell? ⟨w.heap.size, 1, none⟩ = some (.string t) ∧ ((W.setCells (w.heap.size + 1) 0 [.int .u8 8, .string t, .int .i64 n]).drewN (nq + 1)).cell? ⟨w.heap.size, 2, none⟩ = some (.int .i64 n)) := Lib.hid ⟨f0, f1, f2⟩
 clear hBd hBs hSd hSs d0 d1 d2 d3 f0 f1 f2 f3
 go_upto_region 19 with (fail)
 go_region_held3 (fun w' => w'.cell? ⟨w.heap.size, 0, none⟩ = some (.int .u8 8) ∧ w'.cell? ⟨w.heap.size, 1, none⟩ = some (.string t) ∧ w'.cell? ⟨w.heap.size, 2, none⟩ = some (.int .i64 n))
  (first | (with_reducible exact HSD.out) | (with_reducible exact HSS.out) | (with_reducible exact HS7.out) | (obtain ⟨q0, q1, q2⟩ := HS7.out; go_keep) | go_keep)
  ((go_at_call 40; refine (HPC.out _ (by repeat (first | with_reducible exact HD.out | refine Below.drew ?_ | refine Below.setCell ?_ (by simp) _ | refine Ag (by simp) _ _ _ ?_ | exact Aa HD.out HD.out.size (Al _ _)))).mono ?_; rintro e w7 ⟨rfl, hb7, hB7⟩; have l7 : w.heap.size + 1 < w7.heap.size := Nat.lt_of_lt_of_le lB hb7.size; have HS7 : Hid (w7.cell? ⟨w.heap.size, 0, none⟩ = some (.int .u8 8) ∧ w7.cell? ⟨w.heap.size, 1, none⟩ = some (.string t) ∧ w7.cell? ⟨w.heap.size, 2, none⟩ = some (.int .i64 n)) := Lib.hid (by first | with_reducible exact ⟨Ac hb7 HSD.out.1, Ac hb7 HSD.out.2.1, Ac hb7 HSD.out.2.2⟩ | with_reducible exact ⟨Ac hb7 HSS.out.1, Ac hb7 HSS.out.2.1, Ac hb7 HSS.out.2.2⟩); first | (have y7 : w7.heap[w.heap.size + 1]? = some (.cells #[.int .u8 8, .string ⟨#[]⟩, .int .i64 0] 43 (0, 0)) := (by with_reducible exact blk hb7 HBD.out); obtain ⟨y0, y1, y2, y3⟩ := Ak y7) | (have y7 : w7.heap[w.heap.size + 1]? = some (.cells #[.int .u8 8, .string t, .int .i64 n] 43 (0, 0)) := (by with_reducible exact blk hb7 HBS.out); obtain ⟨y0, y1, y2, y3⟩ := Ak y7)))
 all_goals
  obtain ⟨x0, x1, x2⟩ := ‹_ ∧ _›
  go_wp2_with fail
  go_ret2
  refine ⟨rfl, ?_⟩
  repeat (first | with_reducible exact hB7 | with_reducible exact HD.out | refine Below.drew ?_ | refine Below.setCell ?_ (by simp) _ | refine Ag (by simp) _ _ _ ?_ | exact Aa HD.out HD.out.size (Al _ _))
set_option maxHeartbeats 2000000 in
set_option maxRecDepth 100000 in
theorem N2 (t : ByteArray) (n : Int) (w : World) (hs : t.size ≤ LIM) (hL : Laid w) (y1 : decide (0 ≤ n) = true) (y2 : decide (n ≤ 64) = true) (z : DE t n = true) : Calls Tryz.prog 20 #[.agg #[.int .u8 8, .string t, .int .i64 n]] w fun e w' => e = .returned (.tuple #[.int .i64 n, .bool true]) ∧ Below w.heap.size w w' := by
 have e0 : (⟨#[]⟩ : ByteArray).toList = [] := by rw [ByteArray.toList_eq]
 have HPC : Hid (∀ w' : World, Below w.heap.size w w' → Calls Tryz.prog 40 #[.string t, .int .i64 n] w' fun e w2 => e = .returned (.bool true) ∧ Below w'.heap.size w' w2 ∧ Below w.heap.size w w2) := Lib.hid (fun w' hb => (GU t n w' hs (hL.below hb)).mono fun e w2 ⟨h1, h2⟩ => ⟨by rw [h1, z], h2, Aa hb hb.size h2⟩)
 clear hL z
 go_enter Tryz.func20, Tryz.ntmps20
 go_wp2_with fail
 have hS := Af (o := .cells #[.int .u8 8, .string ⟨#[]⟩, .int .i64 0] 43) (Ab w (.cells #[.int .u8 8, .string t, .int .i64 n] 43))
 have hB := Ab (w.alloc (.cells #[.int .u8 8, .string t, .int .i64 n] 43)) (.cells #[.int .u8 8, .string ⟨#[]⟩, .int .i64 0] 43)
 have hD := Aj (w := w) (.cells #[.int .u8 8, .string t, .int .i64 n] 43) (.cells #[.int .u8 8, .string ⟨#[]⟩, .int .i64 0] 43)
 have esz : (w.alloc (.cells #[.int .u8 8, .string t, .int .i64 n] 43)).heap.size = w.heap.size + 1 := by simp
 rw [esz] at hB
 generalize (w.alloc (.cells #[.int .u8 8, .string t, .int .i64 n] 43)).alloc (.cells #[.int .u8 8, .string ⟨#[]⟩, .int .i64 0] 43) = W at *
 obtain ⟨s0, s1, s2, s3⟩ := Ak hS
 obtain ⟨b0, b1, b2, b3⟩ := Ak hB
 have HS := Lib.hid hS
 have HB := Lib.hid hB
 have HD := Lib.hid hD
 clear hS hB hD esz
 have lB := lt_of_block HB.out
 have lS := lt_of_block HS.out
 go_quiet (fail)
 have hBd : (W.drewN (nq + 1)).heap[w.heap.size + 1]? = some (.cells #[.int .u8 8, .string ⟨#[]⟩, .int .i64 0] 43 (0, 0)) := HB.out
 have hBs : ((W.setCells (w.heap.size + 1) 0 [.int .u8 8, .string t, .int .i64 n]).drewN (nq + 1)).heap[w.heap.size + 1]? = some (.cells #[.int .u8 8, .string t, .int .i64 n] 43 (0, 0)) := heap_setCell_same _ _ 2 _ _ _ (heap_setCell_same _ _ 1 _ _ _ (heap_setCell_same _ _ 0 _ _ _ HB.out))
 have hSd : (W.drewN (nq + 1)).heap[w.heap.size]? = some (.cells #[.int .u8 8, .string t, .int .i64 n] 43 (0, 0)) := HS.out
 have hSs : ((W.setCells (w.heap.size + 1) 0 [.int .u8 8, .string t, .int .i64 n]).drewN (nq + 1)).heap[w.heap.size]? = some (.cells #[.int .u8 8, .string t, .int .i64 n] 43 (0, 0)) := B7 (by omega) [_, _, _] 0 _ HS.out
 obtain ⟨d0, d1, d2, d3⟩ := Ak hSd
 obtain ⟨f0, f1, f2, f3⟩ := Ak hSs
 have HBD := Lib.hid hBd
 have HBS := Lib.hid hBs
 have HSD : Hid ((W.drewN (nq + 1)).cell? ⟨w.heap.size, 0, none⟩ = some (.int .u8 8) ∧ (W.drewN (nq + 1)).cell? ⟨w.heap.size, 1, none⟩ = some (.string t) ∧ (W.drewN (nq + 1)).cell? ⟨w.heap.size, 2, none⟩ = some (.int .i64 n)) := Lib.hid ⟨d0, d1, d2⟩
 have HSS : Hid (((W.setCells (w.heap.size + 1) 0 [.int .u8 8, .string t, .int .i64 n]).drewN (nq + 1)).cell? ⟨w.heap.size, 0, none⟩ = some (.int .u8 8) ∧ ((W.setCells (w.heap.size + 1) 0 [.int .u8 8, .string t, .int .i64 n]).drewN (nq + 1)).cell? ⟨w.heap.size, 1, none⟩ = some (.string t) ∧ ((W.setCells (w.heap.size + 1) 0 [.int .u8 8, .string t, .int .i64 n]).drewN (nq + 1)).cell? ⟨w.heap.size, 2, none⟩ = some (.int .i64 n)) := Lib.hid ⟨f0, f1, f2⟩
 clear hBd hBs hSd hSs d0 d1 d2 d3 f0 f1 f2 f3
 go_upto_region 19 with (fail)
 go_region_held3 (fun w' => w'.cell? ⟨w.heap.size, 0, none⟩ = some (.int .u8 8) ∧ w'.cell? ⟨w.heap.size, 1, none⟩ = some (.string t) ∧ w'.cell? ⟨w.heap.size, 2, none⟩ = some (.int .i64 n))
  (first | (with_reducible exact HSD.out) | (with_reducible exact HSS.out) | (with_reducible exact HS7.out) | (obtain ⟨q0, q1, q2⟩ := HS7.out; go_keep) | go_keep)
  ((go_at_call 40; refine (HPC.out _ (by repeat (first | with_reducible exact HD.out | refine Below.drew ?_ | refine Below.setCell ?_ (by simp) _ | refine Ag (by simp) _ _ _ ?_ | exact Aa HD.out HD.out.size (Al _ _)))).mono ?_; rintro e w7 ⟨rfl, hb7, hB7⟩; have l7 : w.heap.size + 1 < w7.heap.size := Nat.lt_of_lt_of_le lB hb7.size; have HS7 : Hid (w7.cell? ⟨w.heap.size, 0, none⟩ = some (.int .u8 8) ∧ w7.cell? ⟨w.heap.size, 1, none⟩ = some (.string t) ∧ w7.cell? ⟨w.heap.size, 2, none⟩ = some (.int .i64 n)) := Lib.hid (by first | with_reducible exact ⟨Ac hb7 HSD.out.1, Ac hb7 HSD.out.2.1, Ac hb7 HSD.out.2.2⟩ | with_reducible exact ⟨Ac hb7 HSS.out.1, Ac hb7 HSS.out.2.1, Ac hb7 HSS.out.2.2⟩); first | (have y7 : w7.heap[w.heap.size + 1]? = some (.cells #[.int .u8 8, .string ⟨#[]⟩, .int .i64 0] 43 (0, 0)) := (by with_reducible exact blk hb7 HBD.out); obtain ⟨y0, y1, y2, y3⟩ := Ak y7) | (have y7 : w7.heap[w.heap.size + 1]? = some (.cells #[.int .u8 8, .string t, .int .i64 n] 43 (0, 0)) := (by with_reducible exact blk hb7 HBS.out); obtain ⟨y0, y1, y2, y3⟩ := Ak y7)))
 all_goals
  obtain ⟨x0, x1, x2⟩ := ‹_ ∧ _›
  go_wp2_with fail
  go_ret2
  refine ⟨rfl, ?_⟩
  repeat (first | with_reducible exact hB7 | with_reducible exact HD.out | refine Below.drew ?_ | refine Below.setCell ?_ (by simp) _ | refine Ag (by simp) _ _ _ ?_ | exact Aa HD.out HD.out.size (Al _ _))
set_option maxHeartbeats 2000000 in
set_option maxRecDepth 100000 in
theorem LX (t : ByteArray) (n : Int) (w : World) (y1 : decide (0 ≤ n) = false) : Calls Tryz.prog 20 #[.agg #[.int .u8 8, .string t, .int .i64 n]] w fun e w' => e = .returned (.tuple #[.int .i64 0, .bool false]) ∧ Below w.heap.size w w' := by
 have e0 : (⟨#[]⟩ : ByteArray).toList = [] := by rw [ByteArray.toList_eq]
 go_enter Tryz.func20, Tryz.ntmps20
 go_wp2_with fail
 have hS := Af (o := .cells #[.int .u8 8, .string ⟨#[]⟩, .int .i64 0] 43) (Ab w (.cells #[.int .u8 8, .string t, .int .i64 n] 43))
 have hB := Ab (w.alloc (.cells #[.int .u8 8, .string t, .int .i64 n] 43)) (.cells #[.int .u8 8, .string ⟨#[]⟩, .int .i64 0] 43)
 have hD := Aj (w := w) (.cells #[.int .u8 8, .string t, .int .i64 n] 43) (.cells #[.int .u8 8, .string ⟨#[]⟩, .int .i64 0] 43)
 have esz : (w.alloc (.cells #[.int .u8 8, .string t, .int .i64 n] 43)).heap.size = w.heap.size + 1 := by simp
 rw [esz] at hB
 generalize (w.alloc (.cells #[.int .u8 8, .string t, .int .i64 n] 43)).alloc (.cells #[.int .u8 8, .string ⟨#[]⟩, .int .i64 0] 43) = W at *
 obtain ⟨s0, s1, s2, s3⟩ := Ak hS
 obtain ⟨b0, b1, b2, b3⟩ := Ak hB
 have HS := Lib.hid hS
 have HB := Lib.hid hB
 have HD := Lib.hid hD
 clear hS hB hD esz
 have hWW : Below W.heap.size W W := Below.refl _ _
 go_quiet (fail)
 go_upto_region 19 with (fail)
 have hWD : Below W.heap.size W W.drew := (Below.refl _ _).drew
 go_region
 all_goals
  go_wp2_with fail
  go_ret2
  refine ⟨rfl, ?_⟩
  repeat (first | with_reducible exact HD.out | refine Below.drew ?_ | refine Below.setCell ?_ (by simp) _ | exact Aa HD.out HD.out.size (Al _ _))
set_option maxHeartbeats 2000000 in
set_option maxRecDepth 100000 in
theorem LW (t : ByteArray) (n : Int) (w : World) (y1 : decide (0 ≤ n) = true) (y2 : decide (n ≤ 64) = false) : Calls Tryz.prog 20 #[.agg #[.int .u8 8, .string t, .int .i64 n]] w fun e w' => e = .returned (.tuple #[.int .i64 0, .bool false]) ∧ Below w.heap.size w w' := by
 have e0 : (⟨#[]⟩ : ByteArray).toList = [] := by rw [ByteArray.toList_eq]
 go_enter Tryz.func20, Tryz.ntmps20
 go_wp2_with fail
 have hS := Af (o := .cells #[.int .u8 8, .string ⟨#[]⟩, .int .i64 0] 43) (Ab w (.cells #[.int .u8 8, .string t, .int .i64 n] 43))
 have hB := Ab (w.alloc (.cells #[.int .u8 8, .string t, .int .i64 n] 43)) (.cells #[.int .u8 8, .string ⟨#[]⟩, .int .i64 0] 43)
 have hD := Aj (w := w) (.cells #[.int .u8 8, .string t, .int .i64 n] 43) (.cells #[.int .u8 8, .string ⟨#[]⟩, .int .i64 0] 43)
 have esz : (w.alloc (.cells #[.int .u8 8, .string t, .int .i64 n] 43)).heap.size = w.heap.size + 1 := by simp
 rw [esz] at hB
 generalize (w.alloc (.cells #[.int .u8 8, .string t, .int .i64 n] 43)).alloc (.cells #[.int .u8 8, .string ⟨#[]⟩, .int .i64 0] 43) = W at *
 obtain ⟨s0, s1, s2, s3⟩ := Ak hS
 obtain ⟨b0, b1, b2, b3⟩ := Ak hB
 have HS := Lib.hid hS
 have HB := Lib.hid hB
 have HD := Lib.hid hD
 clear hS hB hD esz
 have hWW : Below W.heap.size W W := Below.refl _ _
 go_quiet (fail)
 go_upto_region 19 with (fail)
 have hWD : Below W.heap.size W W.drew := (Below.refl _ _).drew
 go_region
 all_goals
  go_wp2_with fail
  go_ret2
  refine ⟨rfl, ?_⟩
  repeat (first | with_reducible exact HD.out | refine Below.drew ?_ | refine Below.setCell ?_ (by simp) _ | exact Aa HD.out HD.out.size (Al _ _))
/- parse.Takes at every step. -/
theorem G9 (t : ByteArray) : ((t.toList == []) = true ∧ t.toList.isEmpty = true) ∨ ((t.toList == []) = false ∧ t.toList.isEmpty = false) := by
 cases h : t.toList with
 | nil => exact Or.inl ⟨rfl, rfl⟩
 | cons a b => exact Or.inr ⟨rfl, rfl⟩
theorem Dg (k : Int) (t : ByteArray) (n : Int) (w : World) (hs : t.size ≤ LIM) (hL : Laid w) : Calls Tryz.prog 20 #[.agg #[.int .u8 k, .string t, .int .i64 n]] w fun e w' => e = .returned (AI k t n) ∧ Below w.heap.size w w' := by
 have fin : ∀ (v : Value), v = AI k t n → Calls Tryz.prog 20 #[.agg #[.int .u8 k, .string t, .int .i64 n]] w (fun e w' => e = .returned v ∧ Below w.heap.size w w') → Calls Tryz.prog 20 #[.agg #[.int .u8 k, .string t, .int .i64 n]] w (fun e w' => e = .returned (AI k t n) ∧ Below w.heap.size w w') := by
   intro v hv h; rw [← hv]; exact h
 rcases (by omega : k = 0 ∨ k ≠ 0) with c0 | c0
 · subst c0; exact fin _ (by simp [AI, AC]) (RI t n w)
 rcases (by omega : k = 1 ∨ k ≠ 1) with c1 | c1
 · subst c1; exact fin _ (by simp [AI, AC, Bd, AJ]) (RJ t n w)
 rcases (by omega : k = 2 ∨ k ≠ 2) with c2 | c2
 · subst c2; exact fin _ (by simp [AI, AC, Bd, AJ]) (RK t n w)
 rcases (by omega : k = 3 ∨ k ≠ 3) with c3 | c3
 · subst c3; exact fin _ (by simp [AI, AC, Bd, AJ]) (RM t n w)
 rcases (by omega : k = 4 ∨ k ≠ 4) with c4 | c4
 · subst c4
   cases z : decide (0 ≤ n) with
   | false => exact fin _ (by simp [AI, AC, Bd, AJ, z]) (Ns t n w z)
   | true =>
     rcases G9 t with ⟨h1, h2⟩ | ⟨h1, h2⟩
     · exact fin _ (by simp [AI, AC, Bd, AJ, z, h1]) (Nt t n w z h1 h2)
     · exact fin _ (by simp [AI, AC, Bd, AJ, z, h1]) (OJ t n w z h1 h2)
 rcases (by omega : k = 5 ∨ k ≠ 5) with c5 | c5
 · subst c5
   cases hz : decide (t.size ≤ 1024) with
   | false => exact fin _ (by simp [AI, AC, Bd, AJ, hz]) (LU t n w hz (by simp at hz ⊢; omega))
   | true =>
     have hi : decide ((t.size : Int) ≤ 1024) = true := by simp at hz ⊢; omega
     cases z : Lib.validD t.data.toList with
     | false => exact fin _ (by simp [AI, AC, Bd, AJ, hz, z]) (Nu t n w hs hL hz hi z)
     | true =>
       cases hn : (n == 0) with
       | false => exact fin _ (by simp [AI, AC, Bd, AJ, hz, z, hn]) (OK t n w hs hL hz hi z hn)
       | true => exact fin _ (by simp [AI, AC, Bd, AJ, hz, z, hn]) (Nv t n w hs hL hz hi z hn)
 rcases (by omega : k = 6 ∨ k ≠ 6) with c6 | c6
 · subst c6
   cases z : DZ t with
   | false => exact fin _ (by simp [AI, AC, Bd, AJ, z]) (Nw t n w hs hL z)
   | true =>
     cases hn : (n == 0) with
     | false => exact fin _ (by simp [AI, AC, Bd, AJ, z, hn]) (OL t n w hs hL z hn)
     | true => exact fin _ (by simp [AI, AC, Bd, AJ, z, hn]) (Nx t n w hs hL z hn)
 rcases (by omega : k = 7 ∨ k ≠ 7) with c7 | c7
 · subst c7
   cases z : decide (0 ≤ n) with
   | false => exact fin _ (by simp [AI, AC, Bd, AJ, z]) (Ny t n w z)
   | true =>
     cases z2 : decide (n ≤ 64) with
     | false => exact fin _ (by simp [AI, AC, Bd, AJ, z, z2]) (LV t n w z z2)
     | true =>
       rcases G9 t with ⟨h1, h2⟩ | ⟨h1, h2⟩
       · exact fin _ (by simp [AI, AC, Bd, AJ, z, z2, h1]) (Nz t n w z z2 h1 h2)
       · exact fin _ (by simp [AI, AC, Bd, AJ, z, z2, h1]) (OM t n w z z2 h1 h2)
 rcases (by omega : k = 8 ∨ k ≠ 8) with c8 | c8
 · subst c8
   cases z : decide (0 ≤ n) with
   | false => exact fin _ (by simp [AI, AC, Bd, AJ, z]) (LX t n w z)
   | true =>
     cases z2 : decide (n ≤ 64) with
     | false => exact fin _ (by simp [AI, AC, Bd, AJ, z, z2]) (LW t n w z z2)
     | true =>
       cases hb : DE t n with
       | false => exact fin _ (by simp [AI, AC, Bd, AJ, z, z2, hb]) (N1 t n w hs hL z z2 hb)
       | true => exact fin _ (by simp [AI, AC, Bd, AJ, z, z2, hb]) (N2 t n w hs hL z z2 hb)
 rcases (by omega : k = 9 ∨ k ≠ 9) with c9 | c9
 · subst c9; exact fin _ (by simp [AI, AC, Bd, AJ]) (RN t n w)
 rcases (by omega : k = 10 ∨ k ≠ 10) with c10 | c10
 · subst c10; exact fin _ (by simp [AI, AC, Bd, AJ]) (Qs t n w)
 rcases (by omega : k = 11 ∨ k ≠ 11) with c11 | c11
 · subst c11; exact fin _ (by simp [AI, AC, Bd, AJ]) (Qt t n w)
 have ne : ∀ j : Int, k ≠ j → (k == j) = false := fun j h => by simp [h]
 by_cases hk : k < 23
 · have e := Qu k (ne _ c0) (ne _ c1) (ne _ c2) (ne _ c3) (ne _ c4) (ne _ c5) (ne _ c6) (ne _ c7) (ne _ c8) (ne _ c9) (ne _ c10) (ne _ c11) hk t n w
   refine fin _ ?_ e
   have m1 : ¬ (1 ≤ k ∧ k ≤ 6) := by omega
   have m2 : ¬ (9 ≤ k ∧ k ≤ 11) := by omega
   simp [AI, AC, Bd, AJ, c0, c4, c5, c6, c7, c8, hk, m1, m2]
 · have e := ON k (ne _ c0) (ne _ c1) (ne _ c2) (ne _ c3) (ne _ c4) (ne _ c5) (ne _ c6) (ne _ c7) (ne _ c8) (ne _ c9) (ne _ c10) (ne _ c11) hk t n w
   refine fin _ ?_ e
   simp [AI, AC, Bd, AJ, c0, c4, c5, c6, c7, c8, hk]
/- parse.Right (under way). -/
structure ST where
 k : Int
 t : ByteArray
 n : Int
def ST.ok (s : ST) : Bool := AC s.k s.t s.n && Bd s.k s.t s.n
def ST.takes (s : ST) : Int := AJ s.k s.n
def As (m : Option Int) (s : ST) : Option Int := m.bind fun n => if s.ok && decide (s.takes ≤ n) then some (n - (s.takes - 1)) else none
def AG (l : List ST) : Option Int := l.foldl As (some 0)
def Av (l : List ST) : Bool := decide (AG l = some 1) && decide (l.length ≤ 128)
def StepsAt (w : World) (l : List ST) (b o : Nat) : Prop := ∀ i (h : i < l.length), w.cell? ⟨b, o + i * 3, none⟩ = some (.int .u8 l[i].k) ∧ w.cell? ⟨b, o + i * 3 + 1, none⟩ = some (.string l[i].t) ∧ w.cell? ⟨b, o + i * 3 + 2, none⟩ = some (.int .i64 l[i].n)
theorem Ev (l : List ST) (i : Nat) (h : i < l.length) : AG (l.take (i + 1)) = As (AG (l.take i)) l[i] := by
 unfold AG
 rw [List.take_succ_eq_append_getElem h, List.foldl_append]
 rfl
theorem Eu (l : List ST) : l.foldl As none = none := by
 induction l with
 | nil => rfl
 | cons a r ih => exact ih
theorem Et (l : List ST) (i : Nat) (h : AG (l.take i) = none) : AG l = none := by
 have e : l = l.take i ++ l.drop i := (List.take_append_drop i l).symm
 unfold AG at h ⊢
 rw [e, List.foldl_append, h]
 exact Eu _
theorem Df (s : ST) (h : s.ok = true) : AI s.k s.t s.n = .tuple #[.int .i64 s.takes, .bool true] := by
 unfold ST.ok at h; unfold AI ST.takes; rw [h]; rfl
theorem JM (s : ST) (h : s.ok = false) : AI s.k s.t s.n = .tuple #[.int .i64 0, .bool false] := by
 unfold ST.ok at h; unfold AI; rw [h]; rfl
theorem Bn (s : ST) (h : s.ok = true) : 0 ≤ s.takes ∧ s.takes ≤ 64 := by
 unfold ST.ok AC at h
 unfold ST.takes AJ
 simp only [Bool.and_eq_true] at h
 by_cases h7 : s.k = 7
 · simp [h7] at h; simp [h7]; omega
 · by_cases h8 : s.k = 8
   · simp [h8] at h; simp [h8]; omega
   · simp only [h7, h8, or_self, if_false]
     split
     · omega
     · split <;> omega
theorem StepsAt.keep {w w' : World} {l : List ST} {b o : Nat} (h : StepsAt w l b o) (hb : Below w.heap.size w w') (hlb : b < w.heap.size) : StepsAt w' l b o := fun i hi => by
 obtain ⟨h1, h2, h3⟩ := h i hi
 exact ⟨Ac hb h1, Ac hb h2, Ac hb h3⟩
set_option maxHeartbeats 2000000 in
set_option maxRecDepth 100000 in
theorem EZ (l : List ST) (a : Option Addr) (c : Nat) (w : World) (hL : Laid w) (hlen : l.length ≤ LIM) (hsz : ∀ s ∈ l, s.t.size ≤ LIM) (hr : l.length = 0 ∨ ∃ b o, a = some ⟨b, o, none⟩ ∧ StepsAt w l b o) :
  Calls Tryz.prog 23 #[.slice a l.length c] w fun e w' => e = .returned (.bool (Av l)) ∧ Below w.heap.size w w' := by
 have HSZ := Lib.hid hsz
 have HR := Lib.hid hr
 have HL := Lib.hid hL
 have hlen' : l.length ≤ 1000000000000 ∨ True := Or.inr trivial
 unfold LIM at hlen
 clear hsz hr hL hlen'
 go_enter Tryz.func23, Tryz.ntmps23
 go_wp2_with fail
 go_loopw [3, 10] (fun s3 s10 wr => ∃ (i : Nat) (m : Int), s10 = .int .i64 i ∧ s3 = .int .i64 m ∧ i ≤ l.length ∧ 0 ≤ m ∧ m ≤ i ∧ AG (l.take i) = some m ∧ Below w.heap.size w wr) (fun _ s10 _ => l.length - (intOf s10).toNat)
 case atStart => exact ⟨0, 0, rfl, rfl, Nat.zero_le _, by omega, by omega, rfl, Below.refl _ _⟩
 case round =>
  obtain ⟨i, m, rfl, rfl, hil, hm0, hmi, hat, hx⟩ := hrel
  by_cases hlt : i < l.length
  · rcases HR.out with h0 | ⟨b, o, rfl, hc⟩
    · omega
    obtain ⟨c0, c1, c2⟩ := hc i hlt
    have hps := HSZ.out _ (List.getElem_mem hlt)
    have hst := Ev l i hlt
    have hdead := Et l (i + 1)
    obtain ⟨p, hp⟩ : ∃ p, l[i] = p := ⟨_, rfl⟩
    rw [hp] at c0 c1 c2 hps hst
    have d0 := Ac hx c0
    have d1 := Ac hx c1
    have d2 := Ac hx c2
    rw [hat] at hst
    obtain ⟨k, t, n⟩ := p
    simp only at c0 c1 c2 d0 d1 d2 hps
    have HX := Lib.hid hx
    have HT := Lib.hid (fun (w' : World) (hb : Below w.heap.size w w') => Dg k t n w' hps (HL.out.below hb))
    clear c0 c1 c2 hc hp hx hps
    cases hok : (ST.mk k t n).ok with
    | false =>
      rw [show AI k t n = _ from JM ⟨k, t, n⟩ hok] at HT
      have HN : Hid (Av l = false) := Lib.hid (by
        unfold Av; rw [hdead (by rw [hst]; simp [As, hok])]; rfl)
      clear hst hok hdead hat
      go_wp2_with (go_at_call 20; refine (HT.out _ (HX.out.alloc HX.out.size _)).mono ?_; rintro e w2 ⟨rfl, hb2⟩; have hbw := Aa (HX.out.alloc HX.out.size _) (HX.out.alloc HX.out.size _).size hb2)
      go_ret
      exact ⟨by rw [HN.out]; rfl, hbw⟩
    | true =>
      rw [show AI k t n = _ from Df ⟨k, t, n⟩ hok] at HT
      have hrg := Bn ⟨k, t, n⟩ hok
      obtain ⟨z, hz⟩ : ∃ z, (ST.mk k t n).takes = z := ⟨_, rfl⟩
      rw [hz] at HT hrg
      by_cases hzm : z ≤ m
      · have HN : Hid (AG (l.take (i + 1)) = some (m - (z - 1))) := Lib.hid (by rw [hst]; simp [As, hok, hz, hzm])
        have q1 : ¬ m < z := by omega
        have q2 : ¬ z > m := by omega
        clear hst hok hdead hat hz
        go_wp2_with (go_at_call 20; refine (HT.out _ (HX.out.alloc HX.out.size _)).mono ?_; rintro e w2 ⟨rfl, hb2⟩; have hbw := Aa (HX.out.alloc HX.out.size _) (HX.out.alloc HX.out.size _).size hb2)
        go_roundw
        case rel => exact ⟨i + 1, m - (z - 1), by go_num, by go_num, by omega, by omega, by omega, HN.out, hbw⟩
        case measure => simp [intOf]; omega
      · have HN : Hid (Av l = false) := Lib.hid (by
         unfold Av; rw [hdead (by rw [hst]; simp [As, hok, hz, hzm])]; rfl)
        have q1 : m < z := by omega
        have q2 : z > m := by omega
        clear hst hok hdead hat hz
        go_wp2_with (go_at_call 20; refine (HT.out _ (HX.out.alloc HX.out.size _)).mono ?_; rintro e w2 ⟨rfl, hb2⟩; have hbw := Aa (HX.out.alloc HX.out.size _) (HX.out.alloc HX.out.size _).size hb2)
        go_ret
        exact ⟨by rw [HN.out]; rfl, hbw⟩
  · have hie : l.take i = l := List.take_of_length_le (by omega)
    rw [hie] at hat
    have HX := Lib.hid hx
    have e1 : Av l = (decide (m = 1) && decide (l.length ≤ 128)) := by unfold Av; rw [hat]; simp
    have HE := Lib.hid e1
    clear hie hx e1 hat
    cases hm : decide (m = 1) with
    | false =>
      have q : (m == 1) = false := by simpa using hm
      have HF : Hid (Av l = false) := Lib.hid (by rw [HE.out, hm]; rfl)
      clear HE hm
      go_wp2_with fail
      go_ret
      exact ⟨by rw [HF.out]; rfl, HX.out⟩
    | true =>
      have q : m = 1 := by simpa using hm
      subst q
      cases hl : decide (l.length ≤ 128) with
      | false =>
        have q : decide ((l.length : Int) ≤ 128) = false := by simp at hl ⊢; omega
        have HF : Hid (Av l = false) := Lib.hid (by rw [HE.out, hl]; rfl)
        clear HE hm hl
        go_wp2_with fail
        go_ret
        exact ⟨by rw [HF.out]; rfl, HX.out⟩
      | true =>
        have q : decide ((l.length : Int) ≤ 128) = true := by simp at hl ⊢; omega
        have HF : Hid (Av l = true) := Lib.hid (by rw [HE.out, hl]; rfl)
        clear HE hm hl
        go_wp2_with fail
        go_ret
        exact ⟨by rw [HF.out]; rfl, HX.out⟩
/- parse.Closed. -/
def ST.path (s : ST) : Bool := s.k == 6
abbrev RowS (w : World) (l : List ST) (a : Option Addr) : Prop := l.length = 0 ∨ ∃ b o, a = some ⟨b, o, none⟩ ∧ StepsAt w l b o
end Go.Proofs.YtbemgcjckchdjaaGreatDoor
