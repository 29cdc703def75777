import Derived.Test.YtbemgcjckchdjaaGreatDoorLPd
import Derived.Deep.RegionWith
/- parse.Takes. -/
namespace Go.Proofs.YtbemgcjckchdjaaGreatDoor
open Go.RowKit
set_option linter.unusedSimpArgs false
set_option linter.unusedVariables false
set_option maxHeartbeats 2000000 in
set_option maxRecDepth 100000 in
theorem Ns (t : ByteArray) (n : Int) (w : World) (z : decide (0 ≤ n) = false) : Calls Tryz.prog 20 #[.agg #[.int .u8 4, .string t, .int .i64 n]] w fun e w' => e = .returned (.tuple #[.int .i64 0, .bool false]) ∧ Below w.heap.size w w' := by
 have e0 : (⟨#[]⟩ : ByteArray).toList = [] := by rw [ByteArray.toList_eq]
 go_enter Tryz.func20, Tryz.ntmps20
 go_wp2_with fail
 have hS := Af (o := .cells #[.int .u8 4, .string ⟨#[]⟩, .int .i64 0] 43) (Ab w (.cells #[.int .u8 4, .string t, .int .i64 n] 43))
 have hB := Ab (w.alloc (.cells #[.int .u8 4, .string t, .int .i64 n] 43)) (.cells #[.int .u8 4, .string ⟨#[]⟩, .int .i64 0] 43)
 have hD := Aj (w := w) (.cells #[.int .u8 4, .string t, .int .i64 n] 43) (.cells #[.int .u8 4, .string ⟨#[]⟩, .int .i64 0] 43)
 have esz : (w.alloc (.cells #[.int .u8 4, .string t, .int .i64 n] 43)).heap.size = w.heap.size + 1 := by simp
 rw [esz] at hB
 generalize (w.alloc (.cells #[.int .u8 4, .string t, .int .i64 n] 43)).alloc (.cells #[.int .u8 4, .string ⟨#[]⟩, .int .i64 0] 43) = W at *
 obtain ⟨s0, s1, s2, s3⟩ := Ak hS
 obtain ⟨b0, b1, b2, b3⟩ := Ak hB
 have HS := Lib.hid hS
 have HB := Lib.hid hB
 have HD := Lib.hid hD
 clear hS hB hD esz
 have hWW : Below W.heap.size W W := Below.refl _ _
 go_quiet (fail)
 go_upto_region 11 with (fail)
 have hWD : Below W.heap.size W W.drew := (Below.refl _ _).drew
 go_region_held3 (fun w' => w'.cell? ⟨w.heap.size, 0, none⟩ = some (.int .u8 4) ∧ w'.cell? ⟨w.heap.size, 1, none⟩ = some (.string t) ∧ w'.cell? ⟨w.heap.size, 2, none⟩ = some (.int .i64 n)) (go_keep) (fail)
 go_wp2_with fail
 go_ret2
 refine ⟨rfl, ?_⟩
 repeat (first | with_reducible exact HD.out | refine Below.drew ?_ | refine Below.setCell ?_ (by simp) _ | exact Aa HD.out HD.out.size (Al _ _))
set_option maxHeartbeats 2000000 in
set_option maxRecDepth 100000 in
theorem OJ (t : ByteArray) (n : Int) (w : World) (z : decide (0 ≤ n) = true) (h1 : (t.toList == []) = false) (h2 : t.toList.isEmpty = false) : Calls Tryz.prog 20 #[.agg #[.int .u8 4, .string t, .int .i64 n]] w fun e w' => e = .returned (.tuple #[.int .i64 0, .bool false]) ∧ Below w.heap.size w w' := by
 have e0 : (⟨#[]⟩ : ByteArray).toList = [] := by rw [ByteArray.toList_eq]
 go_enter Tryz.func20, Tryz.ntmps20
 go_wp2_with fail
 have hS := Af (o := .cells #[.int .u8 4, .string ⟨#[]⟩, .int .i64 0] 43) (Ab w (.cells #[.int .u8 4, .string t, .int .i64 n] 43))
 have hB := Ab (w.alloc (.cells #[.int .u8 4, .string t, .int .i64 n] 43)) (.cells #[.int .u8 4, .string ⟨#[]⟩, .int .i64 0] 43)
 have hD := Aj (w := w) (.cells #[.int .u8 4, .string t, .int .i64 n] 43) (.cells #[.int .u8 4, .string ⟨#[]⟩, .int .i64 0] 43)
 have esz : (w.alloc (.cells #[.int .u8 4, .string t, .int .i64 n] 43)).heap.size = w.heap.size + 1 := by simp
 rw [esz] at hB
 generalize (w.alloc (.cells #[.int .u8 4, .string t, .int .i64 n] 43)).alloc (.cells #[.int .u8 4, .string ⟨#[]⟩, .int .i64 0] 43) = W at *
 obtain ⟨s0, s1, s2, s3⟩ := Ak hS
 obtain ⟨b0, b1, b2, b3⟩ := Ak hB
 have HS := Lib.hid hS
 have HB := Lib.hid hB
 have HD := Lib.hid hD
 clear hS hB hD esz
 have hWW : Below W.heap.size W W := Below.refl _ _
 go_quiet (fail)
 go_upto_region 11 with (fail)
 have hWD : Below W.heap.size W W.drew := (Below.refl _ _).drew
 go_region_held3 (fun w' => w'.cell? ⟨w.heap.size, 0, none⟩ = some (.int .u8 4) ∧ w'.cell? ⟨w.heap.size, 1, none⟩ = some (.string t) ∧ w'.cell? ⟨w.heap.size, 2, none⟩ = some (.int .i64 n)) (go_keep) (fail)
 go_wp2_with fail
 go_ret2
 refine ⟨rfl, ?_⟩
 repeat (first | with_reducible exact HD.out | refine Below.drew ?_ | refine Below.setCell ?_ (by simp) _ | exact Aa HD.out HD.out.size (Al _ _))
set_option maxHeartbeats 2000000 in
set_option maxRecDepth 100000 in
theorem Nt (t : ByteArray) (n : Int) (w : World) (z : decide (0 ≤ n) = true) (h1 : (t.toList == []) = true) (h2 : t.toList.isEmpty = true) : Calls Tryz.prog 20 #[.agg #[.int .u8 4, .string t, .int .i64 n]] w fun e w' => e = .returned (.tuple #[.int .i64 0, .bool true]) ∧ Below w.heap.size w w' := by
 have e0 : (⟨#[]⟩ : ByteArray).toList = [] := by rw [ByteArray.toList_eq]
 go_enter Tryz.func20, Tryz.ntmps20
 go_wp2_with fail
 have hS := Af (o := .cells #[.int .u8 4, .string ⟨#[]⟩, .int .i64 0] 43) (Ab w (.cells #[.int .u8 4, .string t, .int .i64 n] 43))
 have hB := Ab (w.alloc (.cells #[.int .u8 4, .string t, .int .i64 n] 43)) (.cells #[.int .u8 4, .string ⟨#[]⟩, .int .i64 0] 43)
 have hD := Aj (w := w) (.cells #[.int .u8 4, .string t, .int .i64 n] 43) (.cells #[.int .u8 4, .string ⟨#[]⟩, .int .i64 0] 43)
 have esz : (w.alloc (.cells #[.int .u8 4, .string t, .int .i64 n] 43)).heap.size = w.heap.size + 1 := by simp
 rw [esz] at hB
 generalize (w.alloc (.cells #[.int .u8 4, .string t, .int .i64 n] 43)).alloc (.cells #[.int .u8 4, .string ⟨#[]⟩, .int .i64 0] 43) = W at *
 obtain ⟨s0, s1, s2, s3⟩ := Ak hS
 obtain ⟨b0, b1, b2, b3⟩ := Ak hB
 have HS := Lib.hid hS
 have HB := Lib.hid hB
 have HD := Lib.hid hD
 clear hS hB hD esz
 have hWW : Below W.heap.size W W := Below.refl _ _
 go_quiet (fail)
 go_upto_region 11 with (fail)
 have hWD : Below W.heap.size W W.drew := (Below.refl _ _).drew
 go_region_held3 (fun w' => w'.cell? ⟨w.heap.size, 0, none⟩ = some (.int .u8 4) ∧ w'.cell? ⟨w.heap.size, 1, none⟩ = some (.string t) ∧ w'.cell? ⟨w.heap.size, 2, none⟩ = some (.int .i64 n)) (go_keep) (fail)
 go_wp2_with fail
 go_ret2
 refine ⟨rfl, ?_⟩
 repeat (first | with_reducible exact HD.out | refine Below.drew ?_ | refine Below.setCell ?_ (by simp) _ | exact Aa HD.out HD.out.size (Al _ _))
set_option maxHeartbeats 2000000 in
set_option maxRecDepth 100000 in
theorem Ny (t : ByteArray) (n : Int) (w : World) (z : decide (0 ≤ n) = false) : Calls Tryz.prog 20 #[.agg #[.int .u8 7, .string t, .int .i64 n]] w fun e w' => e = .returned (.tuple #[.int .i64 0, .bool false]) ∧ Below w.heap.size w w' := by
 have e0 : (⟨#[]⟩ : ByteArray).toList = [] := by rw [ByteArray.toList_eq]
 go_enter Tryz.func20, Tryz.ntmps20
 go_wp2_with fail
 have hS := Af (o := .cells #[.int .u8 7, .string ⟨#[]⟩, .int .i64 0] 43) (Ab w (.cells #[.int .u8 7, .string t, .int .i64 n] 43))
 have hB := Ab (w.alloc (.cells #[.int .u8 7, .string t, .int .i64 n] 43)) (.cells #[.int .u8 7, .string ⟨#[]⟩, .int .i64 0] 43)
 have hD := Aj (w := w) (.cells #[.int .u8 7, .string t, .int .i64 n] 43) (.cells #[.int .u8 7, .string ⟨#[]⟩, .int .i64 0] 43)
 have esz : (w.alloc (.cells #[.int .u8 7, .string t, .int .i64 n] 43)).heap.size = w.heap.size + 1 := by simp
 rw [esz] at hB
 generalize (w.alloc (.cells #[.int .u8 7, .string t, .int .i64 n] 43)).alloc (.cells #[.int .u8 7, .string ⟨#[]⟩, .int .i64 0] 43) = W at *
 obtain ⟨s0, s1, s2, s3⟩ := Ak hS
 obtain ⟨b0, b1, b2, b3⟩ := Ak hB
 have HS := Lib.hid hS
 have HB := Lib.hid hB
 have HD := Lib.hid hD
 clear hS hB hD esz
 have hWW : Below W.heap.size W W := Below.refl _ _
 go_quiet (fail)
 go_upto_region 17 with (fail)
 have hWD : Below W.heap.size W W.drew := (Below.refl _ _).drew
 go_region
 all_goals
  go_wp2_with fail
  go_ret2
  refine ⟨rfl, ?_⟩
  repeat (first | with_reducible exact HD.out | refine Below.drew ?_ | refine Below.setCell ?_ (by simp) _ | exact Aa HD.out HD.out.size (Al _ _))
set_option maxHeartbeats 2000000 in
set_option maxRecDepth 100000 in
theorem LV (t : ByteArray) (n : Int) (w : World) (z : decide (0 ≤ n) = true) (z2 : decide (n ≤ 64) = false) : Calls Tryz.prog 20 #[.agg #[.int .u8 7, .string t, .int .i64 n]] w fun e w' => e = .returned (.tuple #[.int .i64 0, .bool false]) ∧ Below w.heap.size w w' := by
 have e0 : (⟨#[]⟩ : ByteArray).toList = [] := by rw [ByteArray.toList_eq]
 go_enter Tryz.func20, Tryz.ntmps20
 go_wp2_with fail
 have hS := Af (o := .cells #[.int .u8 7, .string ⟨#[]⟩, .int .i64 0] 43) (Ab w (.cells #[.int .u8 7, .string t, .int .i64 n] 43))
 have hB := Ab (w.alloc (.cells #[.int .u8 7, .string t, .int .i64 n] 43)) (.cells #[.int .u8 7, .string ⟨#[]⟩, .int .i64 0] 43)
 have hD := Aj (w := w) (.cells #[.int .u8 7, .string t, .int .i64 n] 43) (.cells #[.int .u8 7, .string ⟨#[]⟩, .int .i64 0] 43)
 have esz : (w.alloc (.cells #[.int .u8 7, .string t, .int .i64 n] 43)).heap.size = w.heap.size + 1 := by simp
 rw [esz] at hB
 generalize (w.alloc (.cells #[.int .u8 7, .string t, .int .i64 n] 43)).alloc (.cells #[.int .u8 7, .string ⟨#[]⟩, .int .i64 0] 43) = W at *
 obtain ⟨s0, s1, s2, s3⟩ := Ak hS
 obtain ⟨b0, b1, b2, b3⟩ := Ak hB
 have HS := Lib.hid hS
 have HB := Lib.hid hB
 have HD := Lib.hid hD
 clear hS hB hD esz
 have hWW : Below W.heap.size W W := Below.refl _ _
 go_quiet (fail)
 go_upto_region 17 with (fail)
 have hWD : Below W.heap.size W W.drew := (Below.refl _ _).drew
 go_region_held3 (fun w' => w'.cell? ⟨w.heap.size, 0, none⟩ = some (.int .u8 7) ∧ w'.cell? ⟨w.heap.size, 1, none⟩ = some (.string t) ∧ w'.cell? ⟨w.heap.size, 2, none⟩ = some (.int .i64 n)) (go_keep) (fail)
 go_wp2_with fail
 go_ret2
 refine ⟨rfl, ?_⟩
 repeat (first | with_reducible exact HD.out | refine Below.drew ?_ | refine Below.setCell ?_ (by simp) _ | exact Aa HD.out HD.out.size (Al _ _))
set_option maxHeartbeats 2000000 in
set_option maxRecDepth 100000 in
theorem OM (t : ByteArray) (n : Int) (w : World) (z : decide (0 ≤ n) = true) (z2 : decide (n ≤ 64) = true) (h1 : (t.toList == []) = false) (h2 : t.toList.isEmpty = false) : Calls Tryz.prog 20 #[.agg #[.int .u8 7, .string t, .int .i64 n]] w fun e w' => e = .returned (.tuple #[.int .i64 0, .bool false]) ∧ Below w.heap.size w w' := by
 have e0 : (⟨#[]⟩ : ByteArray).toList = [] := by rw [ByteArray.toList_eq]
 go_enter Tryz.func20, Tryz.ntmps20
 go_wp2_with fail
 have hS := Af (o := .cells #[.int .u8 7, .string ⟨#[]⟩, .int .i64 0] 43) (Ab w (.cells #[.int .u8 7, .string t, .int .i64 n] 43))
 have hB := Ab (w.alloc (.cells #[.int .u8 7, .string t, .int .i64 n] 43)) (.cells #[.int .u8 7, .string ⟨#[]⟩, .int .i64 0] 43)
 have hD := Aj (w := w) (.cells #[.int .u8 7, .string t, .int .i64 n] 43) (.cells #[.int .u8 7, .string ⟨#[]⟩, .int .i64 0] 43)
 have esz : (w.alloc (.cells #[.int .u8 7, .string t, .int .i64 n] 43)).heap.size = w.heap.size + 1 := by simp
 rw [esz] at hB
 generalize (w.alloc (.cells #[.int .u8 7, .string t, .int .i64 n] 43)).alloc (.cells #[.int .u8 7, .string ⟨#[]⟩, .int .i64 0] 43) = W at *
 obtain ⟨s0, s1, s2, s3⟩ := Ak hS
 obtain ⟨b0, b1, b2, b3⟩ := Ak hB
 have HS := Lib.hid hS
 have HB := Lib.hid hB
 have HD := Lib.hid hD
 clear hS hB hD esz
 have hWW : Below W.heap.size W W := Below.refl _ _
 go_quiet (fail)
 go_upto_region 17 with (fail)
 have hWD : Below W.heap.size W W.drew := (Below.refl _ _).drew
 go_region_held3 (fun w' => w'.cell? ⟨w.heap.size, 0, none⟩ = some (.int .u8 7) ∧ w'.cell? ⟨w.heap.size, 1, none⟩ = some (.string t) ∧ w'.cell? ⟨w.heap.size, 2, none⟩ = some (.int .i64 n)) (go_keep) (fail)
 go_wp2_with fail
 go_ret2
 refine ⟨rfl, ?_⟩
 repeat (first | with_reducible exact HD.out | refine Below.drew ?_ | refine Below.setCell ?_ (by simp) _ | exact Aa HD.out HD.out.size (Al _ _))
set_option maxHeartbeats 2000000 in
set_option maxRecDepth 100000 in
theorem Nz (t : ByteArray) (n : Int) (w : World) (z : decide (0 ≤ n) = true) (z2 : decide (n ≤ 64) = true) (h1 : (t.toList == []) = true) (h2 : t.toList.isEmpty = true) : Calls Tryz.prog 20 #[.agg #[.int .u8 7, .string t, .int .i64 n]] w fun e w' => e = .returned (.tuple #[.int .i64 n, .bool true]) ∧ Below w.heap.size w w' := by
 have e0 : (⟨#[]⟩ : ByteArray).toList = [] := by rw [ByteArray.toList_eq]
 go_enter Tryz.func20, Tryz.ntmps20
 go_wp2_with fail
 have hS := Af (o := .cells #[.int .u8 7, .string ⟨#[]⟩, .int .i64 0] 43) (Ab w (.cells #[.int .u8 7, .string t, .int .i64 n] 43))
 have hB := Ab (w.alloc (.cells #[.int .u8 7, .string t, .int .i64 n] 43)) (.cells #[.int .u8 7, .string ⟨#[]⟩, .int .i64 0] 43)
 have hD := Aj (w := w) (.cells #[.int .u8 7, .string t, .int .i64 n] 43) (.cells #[.int .u8 7, .string ⟨#[]⟩, .int .i64 0] 43)
 have esz : (w.alloc (.cells #[.int .u8 7, .string t, .int .i64 n] 43)).heap.size = w.heap.size + 1 := by simp
 rw [esz] at hB
 generalize (w.alloc (.cells #[.int .u8 7, .string t, .int .i64 n] 43)).alloc (.cells #[.int .u8 7, .string ⟨#[]⟩, .int .i64 0] 43) = W at *
 obtain ⟨s0, s1, s2, s3⟩ := Ak hS
 obtain ⟨b0, b1, b2, b3⟩ := Ak hB
 have HS := Lib.hid hS
 have HB := Lib.hid hB
 have HD := Lib.hid hD
 clear hS hB hD esz
 have hWW : Below W.heap.size W W := Below.refl _ _
 go_quiet (fail)
 go_upto_region 17 with (fail)
 have hWD : Below W.heap.size W W.drew := (Below.refl _ _).drew
 go_region_held3 (fun w' => w'.cell? ⟨w.heap.size, 0, none⟩ = some (.int .u8 7) ∧ w'.cell? ⟨w.heap.size, 1, none⟩ = some (.string t) ∧ w'.cell? ⟨w.heap.size, 2, none⟩ = some (.int .i64 n)) (go_keep) (fail)
 go_wp2_with fail
 go_ret2
 refine ⟨rfl, ?_⟩
 repeat (first | with_reducible exact HD.out | refine Below.drew ?_ | refine Below.setCell ?_ (by simp) _ | exact Aa HD.out HD.out.size (Al _ _))
/- parse.Takes. -/
set_option maxHeartbeats 2000000 in
set_option maxRecDepth 100000 in
theorem Nw (t : ByteArray) (n : Int) (w : World) (hs : t.size ≤ LIM) (hL : Laid w) (z : DZ t = false) : Calls Tryz.prog 20 #[.agg #[.int .u8 6, .string t, .int .i64 n]] w fun e w' => e = .returned (.tuple #[.int .i64 0, .bool false]) ∧ Below w.heap.size w w' := by
 have e0 : (⟨#[]⟩ : ByteArray).toList = [] := by rw [ByteArray.toList_eq]
 have HPC : Hid (∀ w' : World, Below w.heap.size w w' → Calls Tryz.prog 39 #[.string t] w' fun e w2 => e = .returned (.bool false) ∧ Below w'.heap.size w' w2 ∧ Below w.heap.size w w2) := Lib.hid (fun w' hb => (F5 t w' hs (hL.below hb)).mono fun e w2 ⟨h1, h2⟩ => ⟨by rw [h1, z], h2, Aa hb hb.size h2⟩)
 clear hL z
 go_enter Tryz.func20, Tryz.ntmps20
 go_wp2_with fail
 have hS := Af (o := .cells #[.int .u8 6, .string ⟨#[]⟩, .int .i64 0] 43) (Ab w (.cells #[.int .u8 6, .string t, .int .i64 n] 43))
 have hB := Ab (w.alloc (.cells #[.int .u8 6, .string t, .int .i64 n] 43)) (.cells #[.int .u8 6, .string ⟨#[]⟩, .int .i64 0] 43)
 have hD := Aj (w := w) (.cells #[.int .u8 6, .string t, .int .i64 n] 43) (.cells #[.int .u8 6, .string ⟨#[]⟩, .int .i64 0] 43)
 have esz : (w.alloc (.cells #[.int .u8 6, .string t, .int .i64 n] 43)).heap.size = w.heap.size + 1 := by simp
 rw [esz] at hB
 generalize (w.alloc (.cells #[.int .u8 6, .string t, .int .i64 n] 43)).alloc (.cells #[.int .u8 6, .string ⟨#[]⟩, .int .i64 0] 43) = W at *
 obtain ⟨s0, s1, s2, s3⟩ := Ak hS
 obtain ⟨b0, b1, b2, b3⟩ := Ak hB
 have HS := Lib.hid hS
 have HB := Lib.hid hB
 have HD := Lib.hid hD
 clear hS hB hD esz
 have lB := lt_of_block HB.out
 have lS := lt_of_block HS.out
 go_quiet (fail)
 have hBd : (W.drewN (nq + 1)).heap[w.heap.size + 1]? = some (.cells #[.int .u8 6, .string ⟨#[]⟩, .int .i64 0] 43 (0, 0)) := HB.out
 have hBs : ((W.setCell ⟨w.heap.size + 1, 1, none⟩ (.string t)).drewN (nq + 1)).heap[w.heap.size + 1]? = some (.cells #[.int .u8 6, .string t, .int .i64 0] 43 (0, 0)) := heap_setCell_same _ _ 1 _ _ _ HB.out
 have hSd : (W.drewN (nq + 1)).heap[w.heap.size]? = some (.cells #[.int .u8 6, .string t, .int .i64 n] 43 (0, 0)) := HS.out
 have hSs : ((W.setCell ⟨w.heap.size + 1, 1, none⟩ (.string t)).drewN (nq + 1)).heap[w.heap.size]? = some (.cells #[.int .u8 6, .string t, .int .i64 n] 43 (0, 0)) := B9 (by omega) HS.out
 obtain ⟨d0, d1, d2, d3⟩ := Ak hSd
 obtain ⟨f0, f1, f2, f3⟩ := Ak hSs
 have HBD := Lib.hid hBd
 have HBS := Lib.hid hBs
 have HSD : Hid ((W.drewN (nq + 1)).cell? ⟨w.heap.size, 0, none⟩ = some (.int .u8 6) ∧ (W.drewN (nq + 1)).cell? ⟨w.heap.size, 1, none⟩ = some (.string t) ∧ (W.drewN (nq + 1)).cell? ⟨w.heap.size, 2, none⟩ = some (.int .i64 n)) := Lib.hid ⟨d0, d1, d2⟩
 have HSS : Hid (((W.setCell ⟨w.heap.size + 1, 1, none⟩ (.string t)).drewN (nq + 1)).cell? ⟨w.heap.size, 0, none⟩ = some (.int .u8 6) ∧ ((W.setCell ⟨w.heap.size + 1, 1, none⟩ (.string t)).drewN (nq + 1)).cell? ⟨w.heap.size, 1, none⟩ = some (.string t) ∧ ((W.setCell ⟨w.heap.size + 1, 1, none⟩ (.string t)).drewN (nq + 1)).cell? ⟨w.heap.size, 2, none⟩ = some (.int .i64 n)) := Lib.hid ⟨f0, f1, f2⟩
 clear hBd hBs hSd hSs d0 d1 d2 d3 f0 f1 f2 f3
 go_upto_region 15 with (fail)
 go_region_held3 (fun w' => w'.cell? ⟨w.heap.size, 0, none⟩ = some (.int .u8 6) ∧ w'.cell? ⟨w.heap.size, 1, none⟩ = some (.string t) ∧ w'.cell? ⟨w.heap.size, 2, none⟩ = some (.int .i64 n))
  (first | (with_reducible exact HSD.out) | (with_reducible exact HSS.out) | (with_reducible exact HS7.out) | (obtain ⟨q0, q1, q2⟩ := HS7.out; go_keep) | go_keep)
  ((go_at_call 39; refine (HPC.out _ (by repeat (first | with_reducible exact HD.out | refine Below.drew ?_ | refine Below.setCell ?_ (by simp) _ | exact Aa HD.out HD.out.size (Al _ _)))).mono ?_; rintro e w7 ⟨rfl, hb7, hB7⟩; have l7 : w.heap.size + 1 < w7.heap.size := Nat.lt_of_lt_of_le lB hb7.size; have HS7 : Hid (w7.cell? ⟨w.heap.size, 0, none⟩ = some (.int .u8 6) ∧ w7.cell? ⟨w.heap.size, 1, none⟩ = some (.string t) ∧ w7.cell? ⟨w.heap.size, 2, none⟩ = some (.int .i64 n)) := Lib.hid (by first | with_reducible exact ⟨Ac hb7 HSD.out.1, Ac hb7 HSD.out.2.1, Ac hb7 HSD.out.2.2⟩ | with_reducible exact ⟨Ac hb7 HSS.out.1, Ac hb7 HSS.out.2.1, Ac hb7 HSS.out.2.2⟩); first | (have y7 : w7.heap[w.heap.size + 1]? = some (.cells #[.int .u8 6, .string ⟨#[]⟩, .int .i64 0] 43 (0, 0)) := (by with_reducible exact blk hb7 HBD.out); obtain ⟨y0, y1, y2, y3⟩ := Ak y7) | (have y7 : w7.heap[w.heap.size + 1]? = some (.cells #[.int .u8 6, .string t, .int .i64 0] 43 (0, 0)) := (by with_reducible exact blk hb7 HBS.out); obtain ⟨y0, y1, y2, y3⟩ := Ak y7)))
 all_goals
  obtain ⟨x0, x1, x2⟩ := ‹_ ∧ _›
  go_wp2_with fail
  go_ret2
  refine ⟨rfl, ?_⟩
  repeat (first | with_reducible exact hB7 | with_reducible exact HD.out | refine Below.drew ?_ | refine Below.setCell ?_ (by simp) _ | exact Aa HD.out HD.out.size (Al _ _))
set_option maxHeartbeats 2000000 in
set_option maxRecDepth 100000 in
theorem OL (t : ByteArray) (n : Int) (w : World) (hs : t.size ≤ LIM) (hL : Laid w) (z : DZ t = true) (hn : (n == 0) = false) : Calls Tryz.prog 20 #[.agg #[.int .u8 6, .string t, .int .i64 n]] w fun e w' => e = .returned (.tuple #[.int .i64 0, .bool false]) ∧ Below w.heap.size w w' := by
 have e0 : (⟨#[]⟩ : ByteArray).toList = [] := by rw [ByteArray.toList_eq]
 have HPC : Hid (∀ w' : World, Below w.heap.size w w' → Calls Tryz.prog 39 #[.string t] w' fun e w2 => e = .returned (.bool true) ∧ Below w'.heap.size w' w2 ∧ Below w.heap.size w w2) := Lib.hid (fun w' hb => (F5 t w' hs (hL.below hb)).mono fun e w2 ⟨h1, h2⟩ => ⟨by rw [h1, z], h2, Aa hb hb.size h2⟩)
 clear hL z
 go_enter Tryz.func20, Tryz.ntmps20
 go_wp2_with fail
 have hS := Af (o := .cells #[.int .u8 6, .string ⟨#[]⟩, .int .i64 0] 43) (Ab w (.cells #[.int .u8 6, .string t, .int .i64 n] 43))
 have hB := Ab (w.alloc (.cells #[.int .u8 6, .string t, .int .i64 n] 43)) (.cells #[.int .u8 6, .string ⟨#[]⟩, .int .i64 0] 43)
 have hD := Aj (w := w) (.cells #[.int .u8 6, .string t, .int .i64 n] 43) (.cells #[.int .u8 6, .string ⟨#[]⟩, .int .i64 0] 43)
 have esz : (w.alloc (.cells #[.int .u8 6, .string t, .int .i64 n] 43)).heap.size = w.heap.size + 1 := by simp
 rw [esz] at hB
 generalize (w.alloc (.cells #[.int .u8 6, .string t, .int .i64 n] 43)).alloc (.cells #[.int .u8 6, .string ⟨#[]⟩, .int .i64 0] 43) = W at *
 obtain ⟨s0, s1, s2, s3⟩ := Ak hS
 obtain ⟨b0, b1, b2, b3⟩ := Ak hB
 have HS := Lib.hid hS
 have HB := Lib.hid hB
 have HD := Lib.hid hD
 clear hS hB hD esz
 have lB := lt_of_block HB.out
 have lS := lt_of_block HS.out
 go_quiet (fail)
 have hBd : (W.drewN (nq + 1)).heap[w.heap.size + 1]? = some (.cells #[.int .u8 6, .string ⟨#[]⟩, .int .i64 0] 43 (0, 0)) := HB.out
 have hBs : ((W.setCell ⟨w.heap.size + 1, 1, none⟩ (.string t)).drewN (nq + 1)).heap[w.heap.size + 1]? = some (.cells #[.int .u8 6, .string t, .int .i64 0] 43 (0, 0)) := heap_setCell_same _ _ 1 _ _ _ HB.out
 have hSd : (W.drewN (nq + 1)).heap[w.heap.size]? = some (.cells #[.int .u8 6, .string t, .int .i64 n] 43 (0, 0)) := HS.out
 have hSs : ((W.setCell ⟨w.heap.size + 1, 1, none⟩ (.string t)).drewN (nq + 1)).heap[w.heap.size]? = some (.cells #[.int .u8 6, .string t, .int .i64 n] 43 (0, 0)) := B9 (by omega) HS.out
 obtain ⟨d0, d1, d2, d3⟩ := Ak hSd
 obtain ⟨f0, f1, f2, f3⟩ := Ak hSs
 have HBD := Lib.hid hBd
 have HBS := Lib.hid hBs
 have HSD : Hid ((W.drewN (nq + 1)).cell? ⟨w.heap.size, 0, none⟩ = some (.int .u8 6) ∧ (W.drewN (nq + 1)).cell? ⟨w.heap.size, 1, none⟩ = some (.string t) ∧ (W.drewN (nq + 1)).cell? ⟨w.heap.size, 2, none⟩ = some (.int .i64 n)) := Lib.hid ⟨d0, d1, d2⟩
 have HSS : Hid (((W.setCell ⟨w.heap.size + 1, 1, none⟩ (.string t)).drewN (nq + 1)).cell? ⟨w.heap.size, 0, none⟩ = some (.int .u8 6) ∧ ((W.setCell ⟨w.heap.size + 1, 1, none⟩ (.string t)).drewN (nq + 1)).cell? ⟨w.heap.size, 1, none⟩ = some (.string t) ∧ ((W.setCell ⟨w.heap.size + 1, 1, none⟩ (.string t)).drewN (nq + 1)).cell? ⟨w.heap.size, 2, none⟩ = some (.int .i64 n)) := Lib.hid ⟨f0, f1, f2⟩
 clear hBd hBs hSd hSs d0 d1 d2 d3 f0 f1 f2 f3
 go_upto_region 15 with (fail)
 go_region_held3 (fun w' => w'.cell? ⟨w.heap.size, 0, none⟩ = some (.int .u8 6) ∧ w'.cell? ⟨w.heap.size, 1, none⟩ = some (.string t) ∧ w'.cell? ⟨w.heap.size, 2, none⟩ = some (.int .i64 n))
  (first | (with_reducible exact HSD.out) | (with_reducible exact HSS.out) | (with_reducible exact HS7.out) | (obtain ⟨q0, q1, q2⟩ := HS7.out; go_keep) | go_keep)
  ((go_at_call 39; refine (HPC.out _ (by repeat (first | with_reducible exact HD.out | refine Below.drew ?_ | refine Below.setCell ?_ (by simp) _ | exact Aa HD.out HD.out.size (Al _ _)))).mono ?_; rintro e w7 ⟨rfl, hb7, hB7⟩; have l7 : w.heap.size + 1 < w7.heap.size := Nat.lt_of_lt_of_le lB hb7.size; have HS7 : Hid (w7.cell? ⟨w.heap.size, 0, none⟩ = some (.int .u8 6) ∧ w7.cell? ⟨w.heap.size, 1, none⟩ = some (.string t) ∧ w7.cell? ⟨w.heap.size, 2, none⟩ = some (.int .i64 n)) := Lib.hid (by first | with_reducible exact ⟨Ac hb7 HSD.out.1, Ac hb7 HSD.out.2.1, Ac hb7 HSD.out.2.2⟩ | with_reducible exact ⟨Ac hb7 HSS.out.1, Ac hb7 HSS.out.2.1, Ac hb7 HSS.out.2.2⟩); first | (have y7 : w7.heap[w.heap.size + 1]? = some (.cells #[.int .u8 6, .string ⟨#[]⟩, .int .i64 0] 43 (0, 0)) := (by with_reducible exact blk hb7 HBD.out); obtain ⟨y0, y1, y2, y3⟩ := Ak y7) | (have y7 : w7.heap[w.heap.size + 1]? = some (.cells #[.int .u8 6, .string t, .int .i64 0] 43 (0, 0)) := (by with_reducible exact blk hb7 HBS.out); obtain ⟨y0, y1, y2, y3⟩ := Ak y7)))
 all_goals
  obtain ⟨x0, x1, x2⟩ := ‹_ ∧ _›
  go_wp2_with fail
  go_ret2
  refine ⟨rfl, ?_⟩
  repeat (first | with_reducible exact hB7 | with_reducible exact HD.out | refine Below.drew ?_ | refine Below.setCell ?_ (by simp) _ | exact Aa HD.out HD.out.size (Al _ _))
set_option maxHeartbeats 2000000 in
set_option maxRecDepth 100000 in
theorem Nx (t : ByteArray) (n : Int) (w : World) (hs : t.size ≤ LIM) (hL : Laid w) (z : DZ t = true) (hn : (n == 0) = true) : Calls Tryz.prog 20 #[.agg #[.int .u8 6, .string t, .int .i64 n]] w fun e w' => e = .returned (.tuple #[.int .i64 0, .bool true]) ∧ Below w.heap.size w w' := by
 have e0 : (⟨#[]⟩ : ByteArray).toList = [] := by rw [ByteArray.toList_eq]
 have HPC : Hid (∀ w' : World, Below w.heap.size w w' → Calls Tryz.prog 39 #[.string t] w' fun e w2 => e = .returned (.bool true) ∧ Below w'.heap.size w' w2 ∧ Below w.heap.size w w2) := Lib.hid (fun w' hb => (F5 t w' hs (hL.below hb)).mono fun e w2 ⟨h1, h2⟩ => ⟨by rw [h1, z], h2, Aa hb hb.size h2⟩)
 clear hL z
 go_enter Tryz.func20, Tryz.ntmps20
 go_wp2_with fail
 have hS := Af (o := .cells #[.int .u8 6, .string ⟨#[]⟩, .int .i64 0] 43) (Ab w (.cells #[.int .u8 6, .string t, .int .i64 n] 43))
 have hB := Ab (w.alloc (.cells #[.int .u8 6, .string t, .int .i64 n] 43)) (.cells #[.int .u8 6, .string ⟨#[]⟩, .int .i64 0] 43)
 have hD := Aj (w := w) (.cells #[.int .u8 6, .string t, .int .i64 n] 43) (.cells #[.int .u8 6, .string ⟨#[]⟩, .int .i64 0] 43)
 have esz : (w.alloc (.cells #[.int .u8 6, .string t, .int .i64 n] 43)).heap.size = w.heap.size + 1 := by simp
 rw [esz] at hB
 generalize (w.alloc (.cells #[.int .u8 6, .string t, .int .i64 n] 43)).alloc (.cells #[.int .u8 6, .string ⟨#[]⟩, .int .i64 0] 43) = W at *
 obtain ⟨s0, s1, s2, s3⟩ := Ak hS
 obtain ⟨b0, b1, b2, b3⟩ := Ak hB
 have HS := Lib.hid hS
 have HB := Lib.hid hB
 have HD := Lib.hid hD
 clear hS hB hD esz
 have lB := lt_of_block HB.out
 have lS := lt_of_block HS.out
 go_quiet (fail)
 have hBd : (W.drewN (nq + 1)).heap[w.heap.size + 1]? = some (.cells #[.int .u8 6, .string ⟨#[]⟩, .int .i64 0] 43 (0, 0)) := HB.out
 have hBs : ((W.setCell ⟨w.heap.size + 1, 1, none⟩ (.string t)).drewN (nq + 1)).heap[w.heap.size + 1]? = some (.cells #[.int .u8 6, .string t, .int .i64 0] 43 (0, 0)) := heap_setCell_same _ _ 1 _ _ _ HB.out
 have hSd : (W.drewN (nq + 1)).heap[w.heap.size]? = some (.cells #[.int .u8 6, .string t, .int .i64 n] 43 (0, 0)) := HS.out
 have hSs : ((W.setCell ⟨w.heap.size + 1, 1, none⟩ (.string t)).drewN (nq + 1)).heap[w.heap.size]? = some (.cells #[.int .u8 6, .string t, .int .i64 n] 43 (0, 0)) := B9 (by omega) HS.out
 obtain ⟨d0, d1, d2, d3⟩ := Ak hSd
 obtain ⟨f0, f1, f2, f3⟩ := Ak hSs
 have HBD := Lib.hid hBd
 have HBS := Lib.hid hBs
 have HSD : Hid ((W.drewN (nq + 1)).cell? ⟨w.heap.size, 0, none⟩ = some (.int .u8 6) ∧ (W.drewN (nq + 1)).cell? ⟨w.heap.size, 1, none⟩ = some (.string t) ∧ (W.drewN (nq + 1)).cell? ⟨w.heap.size, 2, none⟩ = some (.int .i64 n)) := Lib.hid ⟨d0, d1, d2⟩
 have HSS : Hid (((W.setCell ⟨w.heap.size + 1, 1, none⟩ (.string t)).drewN (nq + 1)).cell? ⟨w.heap.size, 0, none⟩ = some (.int .u8 6) ∧ ((W.setCell ⟨w.heap.size + 1, 1, none⟩ (.string t)).drewN (nq + 1)).cell? ⟨w.heap.size, 1, none⟩ = some (.string t) ∧ ((W.setCell ⟨w.heap.size + 1, 1, none⟩ (.string t)).drewN (nq + 1)).cell? ⟨w.heap.size, 2, none⟩ = some (.int .i64 n)) := Lib.hid ⟨f0, f1, f2⟩
 clear hBd hBs hSd hSs d0 d1 d2 d3 f0 f1 f2 f3
 go_upto_region 15 with (fail)
 go_region_held3 (fun w' => w'.cell? ⟨w.heap.size, 0, none⟩ = some (.int .u8 6) ∧ w'.cell? ⟨w.heap.size, 1, none⟩ = some (.string t) ∧ w'.cell? ⟨w.heap.size, 2, none⟩ = some (.int .i64 n))
  (first | (with_reducible exact HSD.out) | (with_reducible exact HSS.out) | (with_reducible exact HS7.out) | (obtain ⟨q0, q1, q2⟩ := HS7.out; go_keep) | go_keep)
  ((go_at_call 39; refine (HPC.out _ (by repeat (first | with_reducible exact HD.out | refine Below.drew ?_ | refine Below.setCell ?_ (by simp) _ | exact Aa HD.out HD.out.size (Al _ _)))).mono ?_; rintro e w7 ⟨rfl, hb7, hB7⟩; have l7 : w.heap.size + 1 < w7.heap.size := Nat.lt_of_lt_of_le lB hb7.size; have HS7 : Hid (w7.cell? ⟨w.heap.size, 0, none⟩ = some (.int .u8 6) ∧ w7.cell? ⟨w.heap.size, 1, none⟩ = some (.string t) ∧ w7.cell? ⟨w.heap.size, 2, none⟩ = some (.int .i64 n)) := Lib.hid (by first | with_reducible exact ⟨Ac hb7 HSD.out.1, Ac hb7 HSD.out.2.1, Ac hb7 HSD.out.2.2⟩ | with_reducible exact ⟨Ac hb7 HSS.out.1, Ac hb7 HSS.out.2.1, Ac hb7 HSS.out.2.2⟩); first | (have y7 : w7.heap[w.heap.size + 1]? = some (.cells #[.int .u8 6, .string ⟨#[]⟩, .int .i64 0] 43 (0, 0)) := (by with_reducible exact blk hb7 HBD.out); obtain ⟨y0, y1, y2, y3⟩ := Ak y7) | (have y7 : w7.heap[w.heap.size + 1]? = some (.cells #[.int .u8 6, .string t, .int .i64 0] 43 (0, 0)) := (by with_reducible exact blk hb7 HBS.out); obtain ⟨y0, y1, y2, y3⟩ := Ak y7)))
 all_goals
  obtain ⟨x0, x1, x2⟩ := ‹_ ∧ _›
  go_wp2_with fail
  go_ret2
  refine ⟨rfl, ?_⟩
  repeat (first | with_reducible exact hB7 | with_reducible exact HD.out | refine Below.drew ?_ | refine Below.setCell ?_ (by simp) _ | exact Aa HD.out HD.out.size (Al _ _))
set_option maxHeartbeats 2000000 in
set_option maxRecDepth 100000 in
theorem Nu (t : ByteArray) (n : Int) (w : World) (hs : t.size ≤ LIM) (hL : Laid w) (hz : decide (t.size ≤ 1024) = true) (hi : decide ((t.size : Int) ≤ 1024) = true) (z : Lib.validD t.data.toList = false) : Calls Tryz.prog 20 #[.agg #[.int .u8 5, .string t, .int .i64 n]] w fun e w' => e = .returned (.tuple #[.int .i64 0, .bool false]) ∧ Below w.heap.size w w' := by
 have e0 : (⟨#[]⟩ : ByteArray).toList = [] := by rw [ByteArray.toList_eq]
 have HPC : Hid (∀ w' : World, Below w.heap.size w w' → Calls Tryz.prog 38 #[.string t] w' fun e w2 => e = .returned (.bool false) ∧ Below w'.heap.size w' w2 ∧ Below w.heap.size w w2) := Lib.hid (fun w' hb => (Tryz.utf8_ValidString t w' (Nat.le_trans hs (by decide)) (hL.below hb).tabs).mono fun e w2 ⟨h1, h2⟩ => ⟨by rw [h1, z], h2, Aa hb hb.size h2⟩)
 clear hL z
 go_enter Tryz.func20, Tryz.ntmps20
 go_wp2_with fail
 have hS := Af (o := .cells #[.int .u8 5, .string ⟨#[]⟩, .int .i64 0] 43) (Ab w (.cells #[.int .u8 5, .string t, .int .i64 n] 43))
 have hB := Ab (w.alloc (.cells #[.int .u8 5, .string t, .int .i64 n] 43)) (.cells #[.int .u8 5, .string ⟨#[]⟩, .int .i64 0] 43)
 have hD := Aj (w := w) (.cells #[.int .u8 5, .string t, .int .i64 n] 43) (.cells #[.int .u8 5, .string ⟨#[]⟩, .int .i64 0] 43)
 have esz : (w.alloc (.cells #[.int .u8 5, .string t, .int .i64 n] 43)).heap.size = w.heap.size + 1 := by simp
 rw [esz] at hB
 generalize (w.alloc (.cells #[.int .u8 5, .string t, .int .i64 n] 43)).alloc (.cells #[.int .u8 5, .string ⟨#[]⟩, .int .i64 0] 43) = W at *
 obtain ⟨s0, s1, s2, s3⟩ := Ak hS
 obtain ⟨b0, b1, b2, b3⟩ := Ak hB
 have HS := Lib.hid hS
 have HB := Lib.hid hB
 have HD := Lib.hid hD
 clear hS hB hD esz
 have lB := lt_of_block HB.out
 have lS := lt_of_block HS.out
 go_quiet (fail)
 have hBd : (W.drewN (nq + 1)).heap[w.heap.size + 1]? = some (.cells #[.int .u8 5, .string ⟨#[]⟩, .int .i64 0] 43 (0, 0)) := HB.out
 have hBs : ((W.setCell ⟨w.heap.size + 1, 1, none⟩ (.string t)).drewN (nq + 1)).heap[w.heap.size + 1]? = some (.cells #[.int .u8 5, .string t, .int .i64 0] 43 (0, 0)) := heap_setCell_same _ _ 1 _ _ _ HB.out
 have hSd : (W.drewN (nq + 1)).heap[w.heap.size]? = some (.cells #[.int .u8 5, .string t, .int .i64 n] 43 (0, 0)) := HS.out
 have hSs : ((W.setCell ⟨w.heap.size + 1, 1, none⟩ (.string t)).drewN (nq + 1)).heap[w.heap.size]? = some (.cells #[.int .u8 5, .string t, .int .i64 n] 43 (0, 0)) := B9 (by omega) HS.out
 obtain ⟨d0, d1, d2, d3⟩ := Ak hSd
 obtain ⟨f0, f1, f2, f3⟩ := Ak hSs
 have HBD := Lib.hid hBd
 have HBS := Lib.hid hBs
 have HSD : Hid ((W.drewN (nq + 1)).cell? ⟨w.heap.size, 0, none⟩ = some (.int .u8 5) ∧ (W.drewN (nq + 1)).cell? ⟨w.heap.size, 1, none⟩ = some (.string t) ∧ (W.drewN (nq + 1)).cell? ⟨w.heap.size, 2, none⟩ = some (.int .i64 n)) := Lib.hid ⟨d0, d1, d2⟩
 have HSS : Hid (((W.setCell ⟨w.heap.size + 1, 1, none⟩ (.string t)).drewN (nq + 1)).cell? ⟨w.heap.size, 0, none⟩ = some (.int .u8 5) ∧ ((W.setCell ⟨w.heap.size + 1, 1, none⟩ (.string t)).drewN (nq + 1)).cell? ⟨w.heap.size, 1, none⟩ = some (.string t) ∧ ((W.setCell ⟨w.heap.size + 1, 1, none⟩ (.string t)).drewN (nq + 1)).cell? ⟨w.heap.size, 2, none⟩ = some (.int .i64 n)) := Lib.hid ⟨f0, f1, f2⟩
 clear hBd hBs hSd hSs d0 d1 d2 d3 f0 f1 f2 f3
 go_upto_region 13 with (fail)
 go_region_held3 (fun w' => w'.cell? ⟨w.heap.size, 0, none⟩ = some (.int .u8 5) ∧ w'.cell? ⟨w.heap.size, 1, none⟩ = some (.string t) ∧ w'.cell? ⟨w.heap.size, 2, none⟩ = some (.int .i64 n))
  (first | (with_reducible exact HSD.out) | (with_reducible exact HSS.out) | (with_reducible exact HS7.out) | (obtain ⟨q0, q1, q2⟩ := HS7.out; go_keep) | go_keep)
  ((go_at_call 38; refine (HPC.out _ (by repeat (first | with_reducible exact HD.out | refine Below.drew ?_ | refine Below.setCell ?_ (by simp) _ | exact Aa HD.out HD.out.size (Al _ _)))).mono ?_; rintro e w7 ⟨rfl, hb7, hB7⟩; have l7 : w.heap.size + 1 < w7.heap.size := Nat.lt_of_lt_of_le lB hb7.size; have HS7 : Hid (w7.cell? ⟨w.heap.size, 0, none⟩ = some (.int .u8 5) ∧ w7.cell? ⟨w.heap.size, 1, none⟩ = some (.string t) ∧ w7.cell? ⟨w.heap.size, 2, none⟩ = some (.int .i64 n)) := Lib.hid (by first | with_reducible exact ⟨Ac hb7 HSD.out.1, Ac hb7 HSD.out.2.1, Ac hb7 HSD.out.2.2⟩ | with_reducible exact ⟨Ac hb7 HSS.out.1, Ac hb7 HSS.out.2.1, Ac hb7 HSS.out.2.2⟩); first | (have y7 : w7.heap[w.heap.size + 1]? = some (.cells #[.int .u8 5, .string ⟨#[]⟩, .int .i64 0] 43 (0, 0)) := (by with_reducible exact blk hb7 HBD.out); obtain ⟨y0, y1, y2, y3⟩ := Ak y7) | (have y7 : w7.heap[w.heap.size + 1]? = some (.cells #[.int .u8 5, .string t, .int .i64 0] 43 (0, 0)) := (by with_reducible exact blk hb7 HBS.out); obtain ⟨y0, y1, y2, y3⟩ := Ak y7)))
 all_goals
  obtain ⟨x0, x1, x2⟩ := ‹_ ∧ _›
  go_wp2_with fail
  go_ret2
  refine ⟨rfl, ?_⟩
  repeat (first | with_reducible exact hB7 | with_reducible exact HD.out | refine Below.drew ?_ | refine Below.setCell ?_ (by simp) _ | exact Aa HD.out HD.out.size (Al _ _))
set_option maxHeartbeats 2000000 in
set_option maxRecDepth 100000 in
theorem OK (t : ByteArray) (n : Int) (w : World) (hs : t.size ≤ LIM) (hL : Laid w) (hz : decide (t.size ≤ 1024) = true) (hi : decide ((t.size : Int) ≤ 1024) = true) (z : Lib.validD t.data.toList = true) (hn : (n == 0) = false) : Calls Tryz.prog 20 #[.agg #[.int .u8 5, .string t, .int .i64 n]] w fun e w' => e = .returned (.tuple #[.int .i64 0, .bool false]) ∧ Below w.heap.size w w' := by
 have e0 : (⟨#[]⟩ : ByteArray).toList = [] := by rw [ByteArray.toList_eq]
 have HPC : Hid (∀ w' : World, Below w.heap.size w w' → Calls Tryz.prog 38 #[.string t] w' fun e w2 => e = .returned (.bool true) ∧ Below w'.heap.size w' w2 ∧ Below w.heap.size w w2) := Lib.hid (fun w' hb => (Tryz.utf8_ValidString t w' (Nat.le_trans hs (by decide)) (hL.below hb).tabs).mono fun e w2 ⟨h1, h2⟩ => ⟨by rw [h1, z], h2, Aa hb hb.size h2⟩)
 clear hL z
 go_enter Tryz.func20, Tryz.ntmps20
 go_wp2_with fail
 have hS := Af (o := .cells #[.int .u8 5, .string ⟨#[]⟩, .int .i64 0] 43) (Ab w (.cells #[.int .u8 5, .string t, .int .i64 n] 43))
 have hB := Ab (w.alloc (.cells #[.int .u8 5, .string t, .int .i64 n] 43)) (.cells #[.int .u8 5, .string ⟨#[]⟩, .int .i64 0] 43)
 have hD := Aj (w := w) (.cells #[.int .u8 5, .string t, .int .i64 n] 43) (.cells #[.int .u8 5, .string ⟨#[]⟩, .int .i64 0] 43)
 have esz : (w.alloc (.cells #[.int .u8 5, .string t, .int .i64 n] 43)).heap.size = w.heap.size + 1 := by simp
 rw [esz] at hB
 generalize (w.alloc (.cells #[.int .u8 5, .string t, .int .i64 n] 43)).alloc (.cells #[.int .u8 5, .string ⟨#[]⟩, .int .i64 0] 43) = W at *
 obtain ⟨s0, s1, s2, s3⟩ := Ak hS
 obtain ⟨b0, b1, b2, b3⟩ := Ak hB
 have HS := Lib.hid hS
 have HB := Lib.hid hB
 have HD := Lib.hid hD
 clear hS hB hD esz
 have lB := lt_of_block HB.out
 have lS := lt_of_block HS.out
 go_quiet (fail)
 have hBd : (W.drewN (nq + 1)).heap[w.heap.size + 1]? = some (.cells #[.int .u8 5, .string ⟨#[]⟩, .int .i64 0] 43 (0, 0)) := HB.out
 have hBs : ((W.setCell ⟨w.heap.size + 1, 1, none⟩ (.string t)).drewN (nq + 1)).heap[w.heap.size + 1]? = some (.cells #[.int .u8 5, .string t, .int .i64 0] 43 (0, 0)) := heap_setCell_same _ _ 1 _ _ _ HB.out
 have hSd : (W.drewN (nq + 1)).heap[w.heap.size]? = some (.cells #[.int .u8 5, .string t, .int .i64 n] 43 (0, 0)) := HS.out
 have hSs : ((W.setCell ⟨w.heap.size + 1, 1, none⟩ (.string t)).drewN (nq + 1)).heap[w.heap.size]? = some (.cells #[.int .u8 5, .string t, .int .i64 n] 43 (0, 0)) := B9 (by omega) HS.out
 obtain ⟨d0, d1, d2, d3⟩ := Ak hSd
 obtain ⟨f0, f1, f2, f3⟩ := Ak hSs
 have HBD := Lib.hid hBd
 have HBS := Lib.hid hBs
 have HSD : Hid ((W.drewN (nq + 1)).cell? ⟨w.heap.size, 0, none⟩ = some (.int .u8 5) ∧ (W.drewN (nq + 1)).cell? ⟨w.heap.size, 1, none⟩ = some (.string t) ∧ (W.drewN (nq + 1)).cell? ⟨w.heap.size, 2, none⟩ = some (.int .i64 n)) := Lib.hid ⟨d0, d1, d2⟩
 have HSS : Hid (((W.setCell ⟨w.heap.size + 1, 1, none⟩ (.string t)).drewN (nq + 1)).cell? ⟨w.heap.size, 0, none⟩ = some (.int .u8 5) ∧ ((W.setCell ⟨w.heap.size + 1, 1, none⟩ (.string t)).drewN (nq + 1)).cell? ⟨w.heap.size, 1, none⟩ = some (.string t) ∧ ((W.setCell ⟨w.heap.size + 1, 1, none⟩ (.string t)).drewN (nq + 1)).cell? ⟨w.heap.size, 2, none⟩ = some (.int .i64 n)) := Lib.hid ⟨f0, f1, f2⟩
 clear hBd hBs hSd hSs d0 d1 d2 d3 f0 f1 f2 f3
 go_upto_region 13 with (fail)
 go_region_held3 (fun w' => w'.cell? ⟨w.heap.size, 0, none⟩ = some (.int .u8 5) ∧ w'.cell? ⟨w.heap.size, 1, none⟩ = some (.string t) ∧ w'.cell? ⟨w.heap.size, 2, none⟩ = some (.int .i64 n))
  (first | (with_reducible exact HSD.out) | (with_reducible exact HSS.out) | (with_reducible exact HS7.out) | (obtain ⟨q0, q1, q2⟩ := HS7.out; go_keep) | go_keep)
  ((go_at_call 38; refine (HPC.out _ (by repeat (first | with_reducible exact HD.out | refine Below.drew ?_ | refine Below.setCell ?_ (by simp) _ | exact Aa HD.out HD.out.size (Al _ _)))).mono ?_; rintro e w7 ⟨rfl, hb7, hB7⟩; have l7 : w.heap.size + 1 < w7.heap.size := Nat.lt_of_lt_of_le lB hb7.size; have HS7 : Hid (w7.cell? ⟨w.heap.size, 0, none⟩ = some (.int .u8 5) ∧ w7.cell? ⟨w.heap.size, 1, none⟩ = some (.string t) ∧ w7.cell? ⟨w.heap.size, 2, none⟩ = some (.int .i64 n)) := Lib.hid (by first | with_reducible exact ⟨Ac hb7 HSD.out.1, Ac hb7 HSD.out.2.1, Ac hb7 HSD.out.2.2⟩ | with_reducible exact ⟨Ac hb7 HSS.out.1, Ac hb7 HSS.out.2.1, Ac hb7 HSS.out.2.2⟩); first | (have y7 : w7.heap[w.heap.size + 1]? = some (.cells #[.int .u8 5, .string ⟨#[]⟩, .int .i64 0] 43 (0, 0)) := (by with_reducible exact blk hb7 HBD.out); obtain ⟨y0, y1, y2, y3⟩ := Ak y7) | (have y7 : w7.heap[w.heap.size + 1]? = some (.cells #[.int .u8 5, .string t, .int .i64 0] 43 (0, 0)) := (by with_reducible exact blk hb7 HBS.out); obtain ⟨y0, y1, y2, y3⟩ := Ak y7)))
 all_goals
  obtain ⟨x0, x1, x2⟩ := ‹_ ∧ _›
  go_wp2_with fail
  go_ret2
  refine ⟨rfl, ?_⟩
  repeat (first | with_reducible exact hB7 | with_reducible exact HD.out | refine Below.drew ?_ | refine Below.setCell ?_ (by simp) _ | exact Aa HD.out HD.out.size (Al _ _))
set_option maxHeartbeats 2000000 in
set_option maxRecDepth 100000 in
theorem Nv (t : ByteArray) (n : Int) (w : World) (hs : t.size ≤ LIM) (hL : Laid w) (hz : decide (t.size ≤ 1024) = true) (hi : decide ((t.size : Int) ≤ 1024) = true) (z : Lib.validD t.data.toList = true) (hn : (n == 0) = true) : Calls Tryz.prog 20 #[.agg #[.int .u8 5, .string t, .int .i64 n]] w fun e w' => e = .returned (.tuple #[.int .i64 0, .bool true]) ∧ Below w.heap.size w w' := by
 have e0 : (⟨#[]⟩ : ByteArray).toList = [] := by rw [ByteArray.toList_eq]
 have HPC : Hid (∀ w' : World, Below w.heap.size w w' → Calls Tryz.prog 38 #[.string t] w' fun e w2 => e = .returned (.bool true) ∧ Below w'.heap.size w' w2 ∧ Below w.heap.size w w2) := Lib.hid (fun w' hb => (Tryz.utf8_ValidString t w' (Nat.le_trans hs (by decide)) (hL.below hb).tabs).mono fun e w2 ⟨h1, h2⟩ => ⟨by rw [h1, z], h2, Aa hb hb.size h2⟩)
 clear hL z
 go_enter Tryz.func20, Tryz.ntmps20
 go_wp2_with fail
 have hS := Af (o := .cells #[.int .u8 5, .string ⟨#[]⟩, .int .i64 0] 43) (Ab w (.cells #[.int .u8 5, .string t, .int .i64 n] 43))
 have hB := Ab (w.alloc (.cells #[.int .u8 5, .string t, .int .i64 n] 43)) (.cells #[.int .u8 5, .string ⟨#[]⟩, .int .i64 0] 43)
 have hD := Aj (w := w) (.cells #[.int .u8 5, .string t, .int .i64 n] 43) (.cells #[.int .u8 5, .string ⟨#[]⟩, .int .i64 0] 43)
 have esz : (w.alloc (.cells #[.int .u8 5, .string t, .int .i64 n] 43)).heap.size = w.heap.size + 1 := by simp
 rw [esz] at hB
 generalize (w.alloc (.cells #[.int .u8 5, .string t, .int .i64 n] 43)).alloc (.cells #[.int .u8 5, .string ⟨#[]⟩, .int .i64 0] 43) = W at *
 obtain ⟨s0, s1, s2, s3⟩ := Ak hS
 obtain ⟨b0, b1, b2, b3⟩ := Ak hB
 have HS := Lib.hid hS
 have HB := Lib.hid hB
 have HD := Lib.hid hD
 clear hS hB hD esz
 have lB := lt_of_block HB.out
 have lS := lt_of_block HS.out
 go_quiet (fail)
 have hBd : (W.drewN (nq + 1)).heap[w.heap.size + 1]? = some (.cells #[.int .u8 5, .string ⟨#[]⟩, .int .i64 0] 43 (0, 0)) := HB.out
 have hBs : ((W.setCell ⟨w.heap.size + 1, 1, none⟩ (.string t)).drewN (nq + 1)).heap[w.heap.size + 1]? = some (.cells #[.int .u8 5, .string t, .int .i64 0] 43 (0, 0)) := heap_setCell_same _ _ 1 _ _ _ HB.out
 have hSd : (W.drewN (nq + 1)).heap[w.heap.size]? = some (.cells #[.int .u8 5, .string t, .int .i64 n] 43 (0, 0)) := HS.out
 have hSs : ((W.setCell ⟨w.heap.size + 1, 1, none⟩ (.string t)).drewN (nq + 1)).heap[w.heap.size]? = some (.cells #[.int .u8 5, .string t, .int .i64 n] 43 (0, 0)) := B9 (by omega) HS.out
 obtain ⟨d0, d1, d2, d3⟩ := Ak hSd
 obtain ⟨f0, f1, f2, f3⟩ := Ak hSs
 have HBD := Lib.hid hBd
 have HBS := Lib.hid hBs
 have HSD : Hid ((W.drewN (nq + 1)).cell? ⟨w.heap.size, 0, none⟩ = some (.int .u8 5) ∧ (W.drewN (nq + 1)).cell? ⟨w.heap.size, 1, none⟩ = some (.string t) ∧ (W.drewN (nq + 1)).cell? ⟨w.heap.size, 2, none⟩ = some (.int .i64 n)) := Lib.hid ⟨d0, d1, d2⟩
 have HSS : Hid (((W.setCell ⟨w.heap.size + 1, 1, none⟩ (.string t)).drewN (nq + 1)).cell? ⟨w.heap.size, 0, none⟩ = some (.int .u8 5) ∧ ((W.setCell ⟨w.heap.size + 1, 1, none⟩ (.string t)).drewN (nq + 1)).cell? ⟨w.heap.size, 1, none⟩ = some (.string t) ∧ ((W.setCell ⟨w.heap.size + 1, 1, none⟩ (.string t)).drewN (nq + 1)).cell? ⟨w.heap.size, 2, none⟩ = some (.int .i64 n)) := Lib.hid ⟨f0, f1, f2⟩
 clear hBd hBs hSd hSs d0 d1 d2 d3 f0 f1 f2 f3
 go_upto_region 13 with (fail)
 go_region_held3 (fun w' => w'.cell? ⟨w.heap.size, 0, none⟩ = some (.int .u8 5) ∧ w'.cell? ⟨w.heap.size, 1, none⟩ = some (.string t) ∧ w'.cell? ⟨w.heap.size, 2, none⟩ = some (.int .i64 n))
  (first | (with_reducible exact HSD.out) | (with_reducible exact HSS.out) | (with_reducible exact HS7.out) | (obtain ⟨q0, q1, q2⟩ := HS7.out; go_keep) | go_keep)
  ((go_at_call 38; refine (HPC.out _ (by repeat (first | with_reducible exact HD.out | refine Below.drew ?_ | refine Below.setCell ?_ (by simp) _ | exact Aa HD.out HD.out.size (Al _ _)))).mono ?_; rintro e w7 ⟨rfl, hb7, hB7⟩; have l7 : w.heap.size + 1 < w7.heap.size := Nat.lt_of_lt_of_le lB hb7.size; have HS7 : Hid (w7.cell? ⟨w.heap.size, 0, none⟩ = some (.int .u8 5) ∧ w7.cell? ⟨w.heap.size, 1, none⟩ = some (.string t) ∧ w7.cell? ⟨w.heap.size, 2, none⟩ = some (.int .i64 n)) := Lib.hid (by first | with_reducible exact ⟨Ac hb7 HSD.out.1, Ac hb7 HSD.out.2.1, Ac hb7 HSD.out.2.2⟩ | with_reducible exact ⟨Ac hb7 HSS.out.1, Ac hb7 HSS.out.2.1, Ac hb7 HSS.out.2.2⟩); first | (have y7 : w7.heap[w.heap.size + 1]? = some (.cells #[.int .u8 5, .string ⟨#[]⟩, .int .i64 0] 43 (0, 0)) := (by with_reducible exact blk hb7 HBD.out); obtain ⟨y0, y1, y2, y3⟩ := Ak y7) | (have y7 : w7.heap[w.heap.size + 1]? = some (.cells #[.int .u8 5, .string t, .int .i64 0] 43 (0, 0)) := (by with_reducible exact blk hb7 HBS.out); obtain ⟨y0, y1, y2, y3⟩ := Ak y7)))
 all_goals
  obtain ⟨x0, x1, x2⟩ := ‹_ ∧ _›
  go_wp2_with fail
  go_ret2
  refine ⟨rfl, ?_⟩
  repeat (first | with_reducible exact hB7 | with_reducible exact HD.out | refine Below.drew ?_ | refine Below.setCell ?_ (by simp) _ | exact Aa HD.out HD.out.size (Al _ _))
set_option maxHeartbeats 2000000 in
set_option maxRecDepth 100000 in
theorem LU (t : ByteArray) (n : Int) (w : World) (hz : decide (t.size ≤ 1024) = false) (hi : decide ((t.size : Int) ≤ 1024) = false) : Calls Tryz.prog 20 #[.agg #[.int .u8 5, .string t, .int .i64 n]] w fun e w' => e = .returned (.tuple #[.int .i64 0, .bool false]) ∧ Below w.heap.size w w' := by
 have e0 : (⟨#[]⟩ : ByteArray).toList = [] := by rw [ByteArray.toList_eq]
 go_enter Tryz.func20, Tryz.ntmps20
 go_wp2_with fail
 have hS := Af (o := .cells #[.int .u8 5, .string ⟨#[]⟩, .int .i64 0] 43) (Ab w (.cells #[.int .u8 5, .string t, .int .i64 n] 43))
 have hB := Ab (w.alloc (.cells #[.int .u8 5, .string t, .int .i64 n] 43)) (.cells #[.int .u8 5, .string ⟨#[]⟩, .int .i64 0] 43)
 have hD := Aj (w := w) (.cells #[.int .u8 5, .string t, .int .i64 n] 43) (.cells #[.int .u8 5, .string ⟨#[]⟩, .int .i64 0] 43)
 have esz : (w.alloc (.cells #[.int .u8 5, .string t, .int .i64 n] 43)).heap.size = w.heap.size + 1 := by simp
 rw [esz] at hB
 generalize (w.alloc (.cells #[.int .u8 5, .string t, .int .i64 n] 43)).alloc (.cells #[.int .u8 5, .string ⟨#[]⟩, .int .i64 0] 43) = W at *
 obtain ⟨s0, s1, s2, s3⟩ := Ak hS
 obtain ⟨b0, b1, b2, b3⟩ := Ak hB
 have HS := Lib.hid hS
 have HB := Lib.hid hB
 have HD := Lib.hid hD
 clear hS hB hD esz
 have hWW : Below W.heap.size W W := Below.refl _ _
 go_quiet (fail)
 go_upto_region 13 with (fail)
 have hWD : Below W.heap.size W W.drew := (Below.refl _ _).drew
 go_region
 all_goals
  go_wp2_with fail
  go_ret2
  refine ⟨rfl, ?_⟩
  repeat (first | with_reducible exact HD.out | refine Below.drew ?_ | refine Below.setCell ?_ (by simp) _ | exact Aa HD.out HD.out.size (Al _ _))
end Go.Proofs.YtbemgcjckchdjaaGreatDoor
