import Derived.Test.YtbemgcjckchdjaaGreatDoorKPg
import Derived.Deep.RegionWith
/- parse.Takes. -/
namespace Go.Proofs.YtbemgcjckchdjaaGreatDoor
open Go.RowKit
set_option linter.unusedSimpArgs false
set_option linter.unusedVariables false



set_option maxHeartbeats 2000000 in
set_option maxRecDepth 100000 in
theorem takes_8_no (t : ByteArray) (n : Int) (w : World) (hs : t.size ≤ LIM) (hL : Laid w) (y1 : decide (0 ≤ n) = true) (y2 : decide (n ≤ 64) = true) (z : namesB t n = false) : Calls Tryz.prog 20 #[.agg #[.int .u8 8, .string t, .int .i64 n]] w fun e w' => e = .returned (.tuple #[.int .i64 0, .bool false]) ∧ Below w.heap.size w w' := by
  have e0 : (⟨#[]⟩ : ByteArray).toList = [] := by rw [ByteArray.toList_eq]
  have HPC : Hid (∀ w' : World, Below w.heap.size w w' → Calls Tryz.prog 40 #[.string t, .int .i64 n] w' fun e w2 => e = .returned (.bool false) ∧ Below w'.heap.size w' w2 ∧ Below w.heap.size w w2) := Lib.hid (fun w' hb => (names_calls t n w' hs (hL.below hb)).mono fun e w2 ⟨h1, h2⟩ => ⟨by rw [h1, z], h2, below_call0 hb hb.size h2⟩)
  clear hL z
  go_enter Tryz.func20, Tryz.ntmps20
  go_wp2_with fail
  have hS := blk_alloc (o := .cells #[.int .u8 8, .string ⟨#[]⟩, .int .i64 0] 43) (heap_last w (.cells #[.int .u8 8, .string t, .int .i64 n] 43))
  have hB := heap_last (w.alloc (.cells #[.int .u8 8, .string t, .int .i64 n] 43)) (.cells #[.int .u8 8, .string ⟨#[]⟩, .int .i64 0] 43)
  have hD := two_allocs (w := w) (.cells #[.int .u8 8, .string t, .int .i64 n] 43) (.cells #[.int .u8 8, .string ⟨#[]⟩, .int .i64 0] 43)
  have esz : (w.alloc (.cells #[.int .u8 8, .string t, .int .i64 n] 43)).heap.size = w.heap.size + 1 := by simp
  rw [esz] at hB
  generalize (w.alloc (.cells #[.int .u8 8, .string t, .int .i64 n] 43)).alloc (.cells #[.int .u8 8, .string ⟨#[]⟩, .int .i64 0] 43) = W at *
  obtain ⟨s0, s1, s2, s3⟩ := cells3 hS
  obtain ⟨b0, b1, b2, b3⟩ := cells3 hB
  have HS := Lib.hid hS
  have HB := Lib.hid hB
  have HD := Lib.hid hD
  clear hS hB hD esz
  have lB := lt_of_block HB.out
  have lS := lt_of_block HS.out
  go_quiet (fail)
  have hBd : (W.drewN (nq + 1)).heap[w.heap.size + 1]? = some (.cells #[.int .u8 8, .string ⟨#[]⟩, .int .i64 0] 43 (0, 0)) := HB.out
  have hBs : ((W.setCells (w.heap.size + 1) 0 [.int .u8 8, .string t, .int .i64 n]).drewN (nq + 1)).heap[w.heap.size + 1]? = some (.cells #[.int .u8 8, .string t, .int .i64 n] 43 (0, 0)) := heap_setCell_same _ _ 2 _ _ _ (heap_setCell_same _ _ 1 _ _ _ (heap_setCell_same _ _ 0 _ _ _ HB.out))
  have hSd : (W.drewN (nq + 1)).heap[w.heap.size]? = some (.cells #[.int .u8 8, .string t, .int .i64 n] 43 (0, 0)) := HS.out
  have hSs : ((W.setCells (w.heap.size + 1) 0 [.int .u8 8, .string t, .int .i64 n]).drewN (nq + 1)).heap[w.heap.size]? = some (.cells #[.int .u8 8, .string t, .int .i64 n] 43 (0, 0)) := blk_sets (by omega) [_, _, _] 0 _ HS.out
  obtain ⟨d0, d1, d2, d3⟩ := cells3 hSd
  obtain ⟨f0, f1, f2, f3⟩ := cells3 hSs
  have HBD := Lib.hid hBd
  have HBS := Lib.hid hBs
  have HSD : Hid ((W.drewN (nq + 1)).cell? ⟨w.heap.size, 0, none⟩ = some (.int .u8 8) ∧ (W.drewN (nq + 1)).cell? ⟨w.heap.size, 1, none⟩ = some (.string t) ∧ (W.drewN (nq + 1)).cell? ⟨w.heap.size, 2, none⟩ = some (.int .i64 n)) := Lib.hid ⟨d0, d1, d2⟩
  have HSS : Hid (((W.setCells (w.heap.size + 1) 0 [.int .u8 8, .string t, .int .i64 n]).drewN (nq + 1)).cell? ⟨w.heap.size, 0, none⟩ = some (.int .u8 8) ∧ ((W.setCells (w.heap.size + 1) 0 [.int .u8 8, .string t, .int .i64 n]).drewN (nq + 1)).cell? ⟨w.heap.size, 1, none⟩ = some (.string t) ∧ ((W.setCells (w.heap.size + 1) 0 [.int .u8 8, .string t, .int .i64 n]).drewN (nq + 1)).cell? ⟨w.heap.size, 2, none⟩ = some (.int .i64 n)) := Lib.hid ⟨f0, f1, f2⟩
  clear hBd hBs hSd hSs d0 d1 d2 d3 f0 f1 f2 f3
  go_upto_region 19 with (fail)
  go_region_held3 (fun w' => w'.cell? ⟨w.heap.size, 0, none⟩ = some (.int .u8 8) ∧ w'.cell? ⟨w.heap.size, 1, none⟩ = some (.string t) ∧ w'.cell? ⟨w.heap.size, 2, none⟩ = some (.int .i64 n))
    (first | (with_reducible exact HSD.out) | (with_reducible exact HSS.out) | (with_reducible exact HS7.out) | (obtain ⟨q0, q1, q2⟩ := HS7.out; go_keep) | go_keep)
    ((go_at_call 40; refine (HPC.out _ (by repeat (first | with_reducible exact HD.out | refine Below.drew ?_ | refine Below.setCell ?_ (by simp) _ | refine setCells_below (by simp) _ _ _ ?_ | exact below_call0 HD.out HD.out.size (below_drewN _ _)))).mono ?_; rintro e w7 ⟨rfl, hb7, hB7⟩; have l7 : w.heap.size + 1 < w7.heap.size := Nat.lt_of_lt_of_le lB hb7.size; have HS7 : Hid (w7.cell? ⟨w.heap.size, 0, none⟩ = some (.int .u8 8) ∧ w7.cell? ⟨w.heap.size, 1, none⟩ = some (.string t) ∧ w7.cell? ⟨w.heap.size, 2, none⟩ = some (.int .i64 n)) := Lib.hid (by first | with_reducible exact ⟨keepC hb7 HSD.out.1, keepC hb7 HSD.out.2.1, keepC hb7 HSD.out.2.2⟩ | with_reducible exact ⟨keepC hb7 HSS.out.1, keepC hb7 HSS.out.2.1, keepC hb7 HSS.out.2.2⟩); first | (have y7 : w7.heap[w.heap.size + 1]? = some (.cells #[.int .u8 8, .string ⟨#[]⟩, .int .i64 0] 43 (0, 0)) := (by with_reducible exact blk hb7 HBD.out); obtain ⟨y0, y1, y2, y3⟩ := cells3 y7) | (have y7 : w7.heap[w.heap.size + 1]? = some (.cells #[.int .u8 8, .string t, .int .i64 n] 43 (0, 0)) := (by with_reducible exact blk hb7 HBS.out); obtain ⟨y0, y1, y2, y3⟩ := cells3 y7)))
  all_goals
    obtain ⟨x0, x1, x2⟩ := ‹_ ∧ _›
    go_wp2_with fail
    go_ret2
    refine ⟨rfl, ?_⟩
    repeat (first | with_reducible exact hB7 | with_reducible exact HD.out | refine Below.drew ?_ | refine Below.setCell ?_ (by simp) _ | refine setCells_below (by simp) _ _ _ ?_ | exact below_call0 HD.out HD.out.size (below_drewN _ _))

set_option maxHeartbeats 2000000 in
set_option maxRecDepth 100000 in
theorem takes_8_ok (t : ByteArray) (n : Int) (w : World) (hs : t.size ≤ LIM) (hL : Laid w) (y1 : decide (0 ≤ n) = true) (y2 : decide (n ≤ 64) = true) (z : namesB t n = true) : Calls Tryz.prog 20 #[.agg #[.int .u8 8, .string t, .int .i64 n]] w fun e w' => e = .returned (.tuple #[.int .i64 n, .bool true]) ∧ Below w.heap.size w w' := by
  have e0 : (⟨#[]⟩ : ByteArray).toList = [] := by rw [ByteArray.toList_eq]
  have HPC : Hid (∀ w' : World, Below w.heap.size w w' → Calls Tryz.prog 40 #[.string t, .int .i64 n] w' fun e w2 => e = .returned (.bool true) ∧ Below w'.heap.size w' w2 ∧ Below w.heap.size w w2) := Lib.hid (fun w' hb => (names_calls t n w' hs (hL.below hb)).mono fun e w2 ⟨h1, h2⟩ => ⟨by rw [h1, z], h2, below_call0 hb hb.size h2⟩)
  clear hL z
  go_enter Tryz.func20, Tryz.ntmps20
  go_wp2_with fail
  have hS := blk_alloc (o := .cells #[.int .u8 8, .string ⟨#[]⟩, .int .i64 0] 43) (heap_last w (.cells #[.int .u8 8, .string t, .int .i64 n] 43))
  have hB := heap_last (w.alloc (.cells #[.int .u8 8, .string t, .int .i64 n] 43)) (.cells #[.int .u8 8, .string ⟨#[]⟩, .int .i64 0] 43)
  have hD := two_allocs (w := w) (.cells #[.int .u8 8, .string t, .int .i64 n] 43) (.cells #[.int .u8 8, .string ⟨#[]⟩, .int .i64 0] 43)
  have esz : (w.alloc (.cells #[.int .u8 8, .string t, .int .i64 n] 43)).heap.size = w.heap.size + 1 := by simp
  rw [esz] at hB
  generalize (w.alloc (.cells #[.int .u8 8, .string t, .int .i64 n] 43)).alloc (.cells #[.int .u8 8, .string ⟨#[]⟩, .int .i64 0] 43) = W at *
  obtain ⟨s0, s1, s2, s3⟩ := cells3 hS
  obtain ⟨b0, b1, b2, b3⟩ := cells3 hB
  have HS := Lib.hid hS
  have HB := Lib.hid hB
  have HD := Lib.hid hD
  clear hS hB hD esz
  have lB := lt_of_block HB.out
  have lS := lt_of_block HS.out
  go_quiet (fail)
  have hBd : (W.drewN (nq + 1)).heap[w.heap.size + 1]? = some (.cells #[.int .u8 8, .string ⟨#[]⟩, .int .i64 0] 43 (0, 0)) := HB.out
  have hBs : ((W.setCells (w.heap.size + 1) 0 [.int .u8 8, .string t, .int .i64 n]).drewN (nq + 1)).heap[w.heap.size + 1]? = some (.cells #[.int .u8 8, .string t, .int .i64 n] 43 (0, 0)) := heap_setCell_same _ _ 2 _ _ _ (heap_setCell_same _ _ 1 _ _ _ (heap_setCell_same _ _ 0 _ _ _ HB.out))
  have hSd : (W.drewN (nq + 1)).heap[w.heap.size]? = some (.cells #[.int .u8 8, .string t, .int .i64 n] 43 (0, 0)) := HS.out
  have hSs : ((W.setCells (w.heap.size + 1) 0 [.int .u8 8, .string t, .int .i64 n]).drewN (nq + 1)).heap[w.heap.size]? = some (.cells #[.int .u8 8, .string t, .int .i64 n] 43 (0, 0)) := blk_sets (by omega) [_, _, _] 0 _ HS.out
  obtain ⟨d0, d1, d2, d3⟩ := cells3 hSd
  obtain ⟨f0, f1, f2, f3⟩ := cells3 hSs
  have HBD := Lib.hid hBd
  have HBS := Lib.hid hBs
  have HSD : Hid ((W.drewN (nq + 1)).cell? ⟨w.heap.size, 0, none⟩ = some (.int .u8 8) ∧ (W.drewN (nq + 1)).cell? ⟨w.heap.size, 1, none⟩ = some (.string t) ∧ (W.drewN (nq + 1)).cell? ⟨w.heap.size, 2, none⟩ = some (.int .i64 n)) := Lib.hid ⟨d0, d1, d2⟩
  have HSS : Hid (((W.setCells (w.heap.size + 1) 0 [.int .u8 8, .string t, .int .i64 n]).drewN (nq + 1)).cell? ⟨w.heap.size, 0, none⟩ = some (.int .u8 8) ∧ ((W.setCells (w.heap.size + 1) 0 [.int .u8 8, .string t, .int .i64 n]).drewN (nq + 1)).cell? ⟨w.heap.size, 1, none⟩ = some (.string t) ∧ ((W.setCells (w.heap.size + 1) 0 [.int .u8 8, .string t, .int .i64 n]).drewN (nq + 1)).cell? ⟨w.heap.size, 2, none⟩ = some (.int .i64 n)) := Lib.hid ⟨f0, f1, f2⟩
  clear hBd hBs hSd hSs d0 d1 d2 d3 f0 f1 f2 f3
  go_upto_region 19 with (fail)
  go_region_held3 (fun w' => w'.cell? ⟨w.heap.size, 0, none⟩ = some (.int .u8 8) ∧ w'.cell? ⟨w.heap.size, 1, none⟩ = some (.string t) ∧ w'.cell? ⟨w.heap.size, 2, none⟩ = some (.int .i64 n))
    (first | (with_reducible exact HSD.out) | (with_reducible exact HSS.out) | (with_reducible exact HS7.out) | (obtain ⟨q0, q1, q2⟩ := HS7.out; go_keep) | go_keep)
    ((go_at_call 40; refine (HPC.out _ (by repeat (first | with_reducible exact HD.out | refine Below.drew ?_ | refine Below.setCell ?_ (by simp) _ | refine setCells_below (by simp) _ _ _ ?_ | exact below_call0 HD.out HD.out.size (below_drewN _ _)))).mono ?_; rintro e w7 ⟨rfl, hb7, hB7⟩; have l7 : w.heap.size + 1 < w7.heap.size := Nat.lt_of_lt_of_le lB hb7.size; have HS7 : Hid (w7.cell? ⟨w.heap.size, 0, none⟩ = some (.int .u8 8) ∧ w7.cell? ⟨w.heap.size, 1, none⟩ = some (.string t) ∧ w7.cell? ⟨w.heap.size, 2, none⟩ = some (.int .i64 n)) := Lib.hid (by first | with_reducible exact ⟨keepC hb7 HSD.out.1, keepC hb7 HSD.out.2.1, keepC hb7 HSD.out.2.2⟩ | with_reducible exact ⟨keepC hb7 HSS.out.1, keepC hb7 HSS.out.2.1, keepC hb7 HSS.out.2.2⟩); first | (have y7 : w7.heap[w.heap.size + 1]? = some (.cells #[.int .u8 8, .string ⟨#[]⟩, .int .i64 0] 43 (0, 0)) := (by with_reducible exact blk hb7 HBD.out); obtain ⟨y0, y1, y2, y3⟩ := cells3 y7) | (have y7 : w7.heap[w.heap.size + 1]? = some (.cells #[.int .u8 8, .string t, .int .i64 n] 43 (0, 0)) := (by with_reducible exact blk hb7 HBS.out); obtain ⟨y0, y1, y2, y3⟩ := cells3 y7)))
  all_goals
    obtain ⟨x0, x1, x2⟩ := ‹_ ∧ _›
    go_wp2_with fail
    go_ret2
    refine ⟨rfl, ?_⟩
    repeat (first | with_reducible exact hB7 | with_reducible exact HD.out | refine Below.drew ?_ | refine Below.setCell ?_ (by simp) _ | refine setCells_below (by simp) _ _ _ ?_ | exact below_call0 HD.out HD.out.size (below_drewN _ _))

set_option maxHeartbeats 2000000 in
set_option maxRecDepth 100000 in
theorem takes_8_neg (t : ByteArray) (n : Int) (w : World) (y1 : decide (0 ≤ n) = false) : Calls Tryz.prog 20 #[.agg #[.int .u8 8, .string t, .int .i64 n]] w fun e w' => e = .returned (.tuple #[.int .i64 0, .bool false]) ∧ Below w.heap.size w w' := by
  have e0 : (⟨#[]⟩ : ByteArray).toList = [] := by rw [ByteArray.toList_eq]
  go_enter Tryz.func20, Tryz.ntmps20
  go_wp2_with fail
  have hS := blk_alloc (o := .cells #[.int .u8 8, .string ⟨#[]⟩, .int .i64 0] 43) (heap_last w (.cells #[.int .u8 8, .string t, .int .i64 n] 43))
  have hB := heap_last (w.alloc (.cells #[.int .u8 8, .string t, .int .i64 n] 43)) (.cells #[.int .u8 8, .string ⟨#[]⟩, .int .i64 0] 43)
  have hD := two_allocs (w := w) (.cells #[.int .u8 8, .string t, .int .i64 n] 43) (.cells #[.int .u8 8, .string ⟨#[]⟩, .int .i64 0] 43)
  have esz : (w.alloc (.cells #[.int .u8 8, .string t, .int .i64 n] 43)).heap.size = w.heap.size + 1 := by simp
  rw [esz] at hB
  generalize (w.alloc (.cells #[.int .u8 8, .string t, .int .i64 n] 43)).alloc (.cells #[.int .u8 8, .string ⟨#[]⟩, .int .i64 0] 43) = W at *
  obtain ⟨s0, s1, s2, s3⟩ := cells3 hS
  obtain ⟨b0, b1, b2, b3⟩ := cells3 hB
  have HS := Lib.hid hS
  have HB := Lib.hid hB
  have HD := Lib.hid hD
  clear hS hB hD esz
  have hWW : Below W.heap.size W W := Below.refl _ _
  go_quiet (fail)
  go_upto_region 19 with (fail)
  have hWD : Below W.heap.size W W.drew := (Below.refl _ _).drew
  go_region
  all_goals
    go_wp2_with fail
    go_ret2
    refine ⟨rfl, ?_⟩
    repeat (first | with_reducible exact HD.out | refine Below.drew ?_ | refine Below.setCell ?_ (by simp) _ | exact below_call0 HD.out HD.out.size (below_drewN _ _))

set_option maxHeartbeats 2000000 in
set_option maxRecDepth 100000 in
theorem takes_8_big (t : ByteArray) (n : Int) (w : World) (y1 : decide (0 ≤ n) = true) (y2 : decide (n ≤ 64) = false) : Calls Tryz.prog 20 #[.agg #[.int .u8 8, .string t, .int .i64 n]] w fun e w' => e = .returned (.tuple #[.int .i64 0, .bool false]) ∧ Below w.heap.size w w' := by
  have e0 : (⟨#[]⟩ : ByteArray).toList = [] := by rw [ByteArray.toList_eq]
  go_enter Tryz.func20, Tryz.ntmps20
  go_wp2_with fail
  have hS := blk_alloc (o := .cells #[.int .u8 8, .string ⟨#[]⟩, .int .i64 0] 43) (heap_last w (.cells #[.int .u8 8, .string t, .int .i64 n] 43))
  have hB := heap_last (w.alloc (.cells #[.int .u8 8, .string t, .int .i64 n] 43)) (.cells #[.int .u8 8, .string ⟨#[]⟩, .int .i64 0] 43)
  have hD := two_allocs (w := w) (.cells #[.int .u8 8, .string t, .int .i64 n] 43) (.cells #[.int .u8 8, .string ⟨#[]⟩, .int .i64 0] 43)
  have esz : (w.alloc (.cells #[.int .u8 8, .string t, .int .i64 n] 43)).heap.size = w.heap.size + 1 := by simp
  rw [esz] at hB
  generalize (w.alloc (.cells #[.int .u8 8, .string t, .int .i64 n] 43)).alloc (.cells #[.int .u8 8, .string ⟨#[]⟩, .int .i64 0] 43) = W at *
  obtain ⟨s0, s1, s2, s3⟩ := cells3 hS
  obtain ⟨b0, b1, b2, b3⟩ := cells3 hB
  have HS := Lib.hid hS
  have HB := Lib.hid hB
  have HD := Lib.hid hD
  clear hS hB hD esz
  have hWW : Below W.heap.size W W := Below.refl _ _
  go_quiet (fail)
  go_upto_region 19 with (fail)
  have hWD : Below W.heap.size W W.drew := (Below.refl _ _).drew
  go_region
  all_goals
    go_wp2_with fail
    go_ret2
    refine ⟨rfl, ?_⟩
    repeat (first | with_reducible exact HD.out | refine Below.drew ?_ | refine Below.setCell ?_ (by simp) _ | exact below_call0 HD.out HD.out.size (below_drewN _ _))
end Go.Proofs.YtbemgcjckchdjaaGreatDoor
/- parse.Takes at every step. -/
namespace Go.Proofs.YtbemgcjckchdjaaGreatDoor
open Go.RowKit
set_option linter.unusedSimpArgs false
set_option linter.unusedVariables false
theorem empties (t : ByteArray) : ((t.toList == []) = true ∧ t.toList.isEmpty = true) ∨ ((t.toList == []) = false ∧ t.toList.isEmpty = false) := by
  cases h : t.toList with
  | nil => exact Or.inl ⟨rfl, rfl⟩
  | cons a b => exact Or.inr ⟨rfl, rfl⟩
theorem takes_any (k : Int) (t : ByteArray) (n : Int) (w : World) (hs : t.size ≤ LIM) (hL : Laid w) : Calls Tryz.prog 20 #[.agg #[.int .u8 k, .string t, .int .i64 n]] w fun e w' => e = .returned (takesV k t n) ∧ Below w.heap.size w w' := by
  have fin : ∀ (v : Value), v = takesV k t n → Calls Tryz.prog 20 #[.agg #[.int .u8 k, .string t, .int .i64 n]] w (fun e w' => e = .returned v ∧ Below w.heap.size w w') → Calls Tryz.prog 20 #[.agg #[.int .u8 k, .string t, .int .i64 n]] w (fun e w' => e = .returned (takesV k t n) ∧ Below w.heap.size w w') := by
    intro v hv h; rw [← hv]; exact h
  rcases (by omega : k = 0 ∨ k ≠ 0) with c0 | c0
  · subst c0; exact fin _ (by simp [takesV, stepOk]) (takes_0 t n w)
  rcases (by omega : k = 1 ∨ k ≠ 1) with c1 | c1
  · subst c1; exact fin _ (by simp [takesV, stepOk, stepEq, stepN]) (takes_1 t n w)
  rcases (by omega : k = 2 ∨ k ≠ 2) with c2 | c2
  · subst c2; exact fin _ (by simp [takesV, stepOk, stepEq, stepN]) (takes_2 t n w)
  rcases (by omega : k = 3 ∨ k ≠ 3) with c3 | c3
  · subst c3; exact fin _ (by simp [takesV, stepOk, stepEq, stepN]) (takes_3 t n w)
  rcases (by omega : k = 4 ∨ k ≠ 4) with c4 | c4
  · subst c4
    cases z : decide (0 ≤ n) with
    | false => exact fin _ (by simp [takesV, stepOk, stepEq, stepN, z]) (takes_4_no t n w z)
    | true =>
      rcases empties t with ⟨h1, h2⟩ | ⟨h1, h2⟩
      · exact fin _ (by simp [takesV, stepOk, stepEq, stepN, z, h1]) (takes_4_ok t n w z h1 h2)
      · exact fin _ (by simp [takesV, stepOk, stepEq, stepN, z, h1]) (takes_4_t t n w z h1 h2)
  rcases (by omega : k = 5 ∨ k ≠ 5) with c5 | c5
  · subst c5
    cases hz : decide (t.size ≤ 1024) with
    | false => exact fin _ (by simp [takesV, stepOk, stepEq, stepN, hz]) (takes_5_big t n w hz (by simp at hz ⊢; omega))
    | true =>
      have hi : decide ((t.size : Int) ≤ 1024) = true := by simp at hz ⊢; omega
      cases z : Lib.validD t.data.toList with
      | false => exact fin _ (by simp [takesV, stepOk, stepEq, stepN, hz, z]) (takes_5_no t n w hs hL hz hi z)
      | true =>
        cases hn : (n == 0) with
        | false => exact fin _ (by simp [takesV, stepOk, stepEq, stepN, hz, z, hn]) (takes_5_n t n w hs hL hz hi z hn)
        | true => exact fin _ (by simp [takesV, stepOk, stepEq, stepN, hz, z, hn]) (takes_5_ok t n w hs hL hz hi z hn)
  rcases (by omega : k = 6 ∨ k ≠ 6) with c6 | c6
  · subst c6
    cases z : pathB t with
    | false => exact fin _ (by simp [takesV, stepOk, stepEq, stepN, z]) (takes_6_no t n w hs hL z)
    | true =>
      cases hn : (n == 0) with
      | false => exact fin _ (by simp [takesV, stepOk, stepEq, stepN, z, hn]) (takes_6_n t n w hs hL z hn)
      | true => exact fin _ (by simp [takesV, stepOk, stepEq, stepN, z, hn]) (takes_6_ok t n w hs hL z hn)
  rcases (by omega : k = 7 ∨ k ≠ 7) with c7 | c7
  · subst c7
    cases z : decide (0 ≤ n) with
    | false => exact fin _ (by simp [takesV, stepOk, stepEq, stepN, z]) (takes_7_no t n w z)
    | true =>
      cases z2 : decide (n ≤ 64) with
      | false => exact fin _ (by simp [takesV, stepOk, stepEq, stepN, z, z2]) (takes_7_big t n w z z2)
      | true =>
        rcases empties t with ⟨h1, h2⟩ | ⟨h1, h2⟩
        · exact fin _ (by simp [takesV, stepOk, stepEq, stepN, z, z2, h1]) (takes_7_ok t n w z z2 h1 h2)
        · exact fin _ (by simp [takesV, stepOk, stepEq, stepN, z, z2, h1]) (takes_7_t t n w z z2 h1 h2)
  rcases (by omega : k = 8 ∨ k ≠ 8) with c8 | c8
  · subst c8
    cases z : decide (0 ≤ n) with
    | false => exact fin _ (by simp [takesV, stepOk, stepEq, stepN, z]) (takes_8_neg t n w z)
    | true =>
      cases z2 : decide (n ≤ 64) with
      | false => exact fin _ (by simp [takesV, stepOk, stepEq, stepN, z, z2]) (takes_8_big t n w z z2)
      | true =>
        cases hb : namesB t n with
        | false => exact fin _ (by simp [takesV, stepOk, stepEq, stepN, z, z2, hb]) (takes_8_no t n w hs hL z z2 hb)
        | true => exact fin _ (by simp [takesV, stepOk, stepEq, stepN, z, z2, hb]) (takes_8_ok t n w hs hL z z2 hb)
  rcases (by omega : k = 9 ∨ k ≠ 9) with c9 | c9
  · subst c9; exact fin _ (by simp [takesV, stepOk, stepEq, stepN]) (takes_9 t n w)
  rcases (by omega : k = 10 ∨ k ≠ 10) with c10 | c10
  · subst c10; exact fin _ (by simp [takesV, stepOk, stepEq, stepN]) (takes_10 t n w)
  rcases (by omega : k = 11 ∨ k ≠ 11) with c11 | c11
  · subst c11; exact fin _ (by simp [takesV, stepOk, stepEq, stepN]) (takes_11 t n w)
  have ne : ∀ j : Int, k ≠ j → (k == j) = false := fun j h => by simp [h]
  by_cases hk : k < 23
  · have e := takes_op k (ne _ c0) (ne _ c1) (ne _ c2) (ne _ c3) (ne _ c4) (ne _ c5) (ne _ c6) (ne _ c7) (ne _ c8) (ne _ c9) (ne _ c10) (ne _ c11) hk t n w
    refine fin _ ?_ e
    have m1 : ¬ (1 ≤ k ∧ k ≤ 6) := by omega
    have m2 : ¬ (9 ≤ k ∧ k ≤ 11) := by omega
    simp [takesV, stepOk, stepEq, stepN, c0, c4, c5, c6, c7, c8, hk, m1, m2]
  · have e := takes_far k (ne _ c0) (ne _ c1) (ne _ c2) (ne _ c3) (ne _ c4) (ne _ c5) (ne _ c6) (ne _ c7) (ne _ c8) (ne _ c9) (ne _ c10) (ne _ c11) hk t n w
    refine fin _ ?_ e
    simp [takesV, stepOk, stepEq, stepN, c0, c4, c5, c6, c7, c8, hk]
end Go.Proofs.YtbemgcjckchdjaaGreatDoor
