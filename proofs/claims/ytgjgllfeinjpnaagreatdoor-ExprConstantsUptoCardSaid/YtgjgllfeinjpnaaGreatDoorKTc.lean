import Derived.Test.YtgjgllfeinjpnaaGreatDoorKTa
/- expr.Literal (printed by genlit.py). -/
namespace Go.Proofs.YtgjgllfeinjpnaaGreatDoor
open Go.RowKit
set_option linter.unusedSimpArgs false
set_option linter.unusedVariables false
def litO (l : List ST) : Option VT := if rightB l then (match l with
  | s :: r => (match firstO s with
    | none => none
    | some v => if v.kind = 0 then none else if r.length = 0 then some v else if r.length = 1 ∧ s.k = 4 ∧ (r.getD 0 s).k = 9 then some (intV (-s.n)) else none)
  | [] => none) else none
def LitPost (w : World) (o : Option VT) (e : Ending) (w' : World) : Prop := Below w.heap.size w w' ∧ match o with
  | some (.mk k b n s _ _) => e = .returned (.tuple #[.agg #[.int .u8 k, .bool b, .int .i64 n, .string s, .slice none 0 0, .slice none 0 0], .bool true])
  | none => e = .returned (.tuple #[zeroV, .bool false])
section
set_option maxHeartbeats 2000000
set_option maxRecDepth 100000
variable (len : Nat) (a : Option Addr) (b o c : Nat) (w : World)
theorem lit_wrong (hR : ∀ w', Below w.heap.size w w' → Calls Tryz.prog 19 #[.slice a len c] w' fun e w2 => e = .returned (.bool false) ∧ Below w'.heap.size w' w2) :
    Calls Tryz.prog 18 #[.slice a len c] w (LitPost w none) := by
  have HR := Lib.hid hR
  have HD := Lib.hid (below_new (w := w) zeroO)
  have HZ := Lib.hid (heap_last w zeroO)
  clear hR
  go_enter Tryz.func18, Tryz.ntmps18
  go_wp2_with (go_at_call 19; refine (HR.out _ HD.out).mono ?_; rintro e w7 ⟨rfl, hb7⟩; obtain ⟨z0, z1, z2, z3, z4, z5, z6⟩ := cells6 (blk hb7 HZ.out); have HB7 := Lib.hid (below_call0 HD.out HD.out.size hb7); clear hb7)
  refine bodyPost_ret (v := .tuple #[zeroV, .bool false]) (by simp [results, Tryz.results18, go_sem, cell_set_same, z0, z1, z2, z3, z4, z5]) rfl ?_
  exact ⟨setCells_below (Nat.le_refl _) [_, _, _, _, _, _] 0 _ HB7.out, rfl⟩
theorem zero_constant : (Tryz.prog.info? 79).map (·.zero) = some (some (.agg #[.int .u8 0, .bool false, .int .i64 0, .string ⟨#[]⟩, .slice none 0 0, .slice none 0 0])) := by kernel_rfl
theorem run_assert_no (T : TypeId) (x : Value) (h : T ≠ 79) (w : World) : (Instr.typeAssert (.iface T x) 63 79 true).run Tryz.prog w = .ok (.tuple #[.agg #[.int .u8 0, .bool false, .int .i64 0, .string ⟨#[]⟩, .slice none 0 0, .slice none 0 0], .bool false]) w := by
  have hne : (T = 79) = False := eq_false h
  obtain ⟨i, hi, hz⟩ := Option.map_eq_some_iff.1 zero_constant
  simp [Instr.typeAssert, Go.underlying, Go.zeroValue, Go.typeInfo, Tryz.underlying79, go_sem, hne, hi, hz]
theorem run_assert_yes (x : Value) (w : World) : (Instr.typeAssert (.iface 79 x) 63 79 true).run Tryz.prog w = .ok (.tuple #[x, .bool true]) w := by
  simp [Instr.typeAssert, Go.underlying, Tryz.underlying79, go_sem]
theorem lit_no  (hR : ∀ w', Below w.heap.size w w' → Calls Tryz.prog 19 #[.slice (some ⟨b, o, none⟩) len c] w' fun e w2 => e = .returned (.bool true) ∧ Below w'.heap.size w' w2)
    (hT : ∀ w', Below w.heap.size w w' → Calls Tryz.prog 23 #[.slice (some ⟨b, o, none⟩) 1 c] w' (FirstPost w' (none))) (hc : len ≤ c) (hc2 : 1 ≤ len) (hlm : len ≤ LIM) :
    Calls Tryz.prog 18 #[.slice (some ⟨b, o, none⟩) len c] w (LitPost w (none)) := by
  have HR := Lib.hid hR
  have HT := Lib.hid hT
  have HD := Lib.hid (below_new (w := w) zeroO)
  have HZ := Lib.hid (heap_last w zeroO)
  have e1 : (1 : Int) ≤ (c : Int) := by omega
  have e2 : (1 : Nat) ≤ c := by omega
  unfold LIM at hlm
  clear hR hT
  go_enter Tryz.func18, Tryz.ntmps18
  go_upto_region 5 with (first | (go_at_call 19; refine (HR.out _ HD.out).mono ?_; rintro e w7 ⟨rfl, hb7⟩; have HZ7 := Lib.hid (blk hb7 HZ.out); have HB7 := Lib.hid (below_call0 HD.out HD.out.size hb7); clear hb7) | (go_at_call 23; refine (HT.out _ HB7.out).mono ?_; rintro e w8 ⟨hb8, v, rfl, hv1, T, x, rfl, hTn⟩; have HA := run_assert_no T x hTn; have HZ8 := Lib.hid (blk hb8 HZ7.out); have HB8 := Lib.hid (below_call0 HB7.out HB7.out.size hb8); have l8 := lt_of_block HZ8.out; obtain ⟨z0, z1, z2, z3, z4, z5, z6⟩ := cells6 (blk_alloc (o := .cells #[.int .u8 0, .bool false, .int .i64 0, .string ⟨#[]⟩, .slice none 0 0, .slice none 0 0] 79) HZ8.out); obtain ⟨x0, x1, x2, x3, x4, x5, x6⟩ := cells6 (heap_last w8 (.cells #[.int .u8 0, .bool false, .int .i64 0, .string ⟨#[]⟩, .slice none 0 0, .slice none 0 0] 79)); have HBA := Lib.hid (HB8.out.alloc HB8.out.size (.cells #[.int .u8 0, .bool false, .int .i64 0, .string ⟨#[]⟩, .slice none 0 0, .slice none 0 0] 79)); clear hb8))
  generalize w8.alloc (.cells #[.int .u8 0, .bool false, .int .i64 0, .string ⟨#[]⟩, .slice none 0 0, .slice none 0 0] 79) = W at *
  go_wp2_with fail
  refine bodyPost_ret (v := .tuple #[zeroV, .bool false]) (by simp [results, Tryz.results18, go_sem, cell_set_same, z0, z1, z2, z3, z4, z5]) rfl ?_
  exact ⟨setCells_below (Nat.le_refl _) [_, _, _, _, _, _] 0 _ HBA.out, rfl⟩
theorem lit_null (k : Int) (bb : Bool) (n : Int) (s : ByteArray) (hk : (k == 0) = true) (hR : ∀ w', Below w.heap.size w w' → Calls Tryz.prog 19 #[.slice (some ⟨b, o, none⟩) len c] w' fun e w2 => e = .returned (.bool true) ∧ Below w'.heap.size w' w2)
    (hT : ∀ w', Below w.heap.size w w' → Calls Tryz.prog 23 #[.slice (some ⟨b, o, none⟩) 1 c] w' (FirstPost w' (some (.mk k bb n s .nil .nil)))) (hc : len ≤ c) (hc2 : 1 ≤ len) (hlm : len ≤ LIM) :
    Calls Tryz.prog 18 #[.slice (some ⟨b, o, none⟩) len c] w (LitPost w (none)) := by
  have HR := Lib.hid hR
  have HT := Lib.hid hT
  have HD := Lib.hid (below_new (w := w) zeroO)
  have HZ := Lib.hid (heap_last w zeroO)
  have e1 : (1 : Int) ≤ (c : Int) := by omega
  have e2 : (1 : Nat) ≤ c := by omega
  unfold LIM at hlm
  clear hR hT
  go_enter Tryz.func18, Tryz.ntmps18
  go_upto_region 5 with (first | (go_at_call 19; refine (HR.out _ HD.out).mono ?_; rintro e w7 ⟨rfl, hb7⟩; have HZ7 := Lib.hid (blk hb7 HZ.out); have HB7 := Lib.hid (below_call0 HD.out HD.out.size hb7); clear hb7) | (go_at_call 23; refine (HT.out _ HB7.out).mono ?_; rintro e w8 ⟨hb8, v, rfl, hv1, hv2⟩; obtain rfl := hv2; have HA := run_assert_yes (.agg #[.int .u8 k, .bool bb, .int .i64 n, .string s, .slice none 0 0, .slice none 0 0]); have HZ8 := Lib.hid (blk hb8 HZ7.out); have HB8 := Lib.hid (below_call0 HB7.out HB7.out.size hb8); have l8 := lt_of_block HZ8.out; obtain ⟨z0, z1, z2, z3, z4, z5, z6⟩ := cells6 (blk_alloc (o := .cells #[.int .u8 k, .bool bb, .int .i64 n, .string s, .slice none 0 0, .slice none 0 0] 79) HZ8.out); obtain ⟨x0, x1, x2, x3, x4, x5, x6⟩ := cells6 (heap_last w8 (.cells #[.int .u8 k, .bool bb, .int .i64 n, .string s, .slice none 0 0, .slice none 0 0] 79)); have HBA := Lib.hid (HB8.out.alloc HB8.out.size (.cells #[.int .u8 k, .bool bb, .int .i64 n, .string s, .slice none 0 0, .slice none 0 0] 79)); clear hb8))
  generalize w8.alloc (.cells #[.int .u8 k, .bool bb, .int .i64 n, .string s, .slice none 0 0, .slice none 0 0] 79) = W at *
  go_wp2_with fail
  refine bodyPost_ret (v := .tuple #[zeroV, .bool false]) (by simp [results, Tryz.results18, go_sem, cell_set_same, z0, z1, z2, z3, z4, z5]) rfl ?_
  exact ⟨setCells_below (Nat.le_refl _) [_, _, _, _, _, _] 0 _ HBA.out, rfl⟩
theorem lit_one (k : Int) (bb : Bool) (n : Int) (s : ByteArray) (hk : (k == 0) = false) (k0 : Int) (h7 : decide (7 ≤ k0) = false) (h0 : w.cell? ⟨b, o, none⟩ = some (.int .u8 k0)) (hl : len = 1) (hR : ∀ w', Below w.heap.size w w' → Calls Tryz.prog 19 #[.slice (some ⟨b, o, none⟩) len c] w' fun e w2 => e = .returned (.bool true) ∧ Below w'.heap.size w' w2)
    (hT : ∀ w', Below w.heap.size w w' → Calls Tryz.prog 23 #[.slice (some ⟨b, o, none⟩) 1 c] w' (FirstPost w' (some (.mk k bb n s .nil .nil)))) (hc : len ≤ c) (hc2 : 1 ≤ len) (hlm : len ≤ LIM) :
    Calls Tryz.prog 18 #[.slice (some ⟨b, o, none⟩) len c] w (LitPost w (some (.mk k bb n s .nil .nil))) := by
  have HR := Lib.hid hR
  have HT := Lib.hid hT
  have HD := Lib.hid (below_new (w := w) zeroO)
  have HZ := Lib.hid (heap_last w zeroO)
  have e1 : (1 : Int) ≤ (c : Int) := by omega
  have e2 : (1 : Nat) ≤ c := by omega
  unfold LIM at hlm
  subst hl
  clear hR hT
  go_enter Tryz.func18, Tryz.ntmps18
  go_upto_region 5 with (first | (go_at_call 19; refine (HR.out _ HD.out).mono ?_; rintro e w7 ⟨rfl, hb7⟩; have HZ7 := Lib.hid (blk hb7 HZ.out); have HB7 := Lib.hid (below_call0 HD.out HD.out.size hb7); clear hb7) | (go_at_call 23; refine (HT.out _ HB7.out).mono ?_; rintro e w8 ⟨hb8, v, rfl, hv1, hv2⟩; obtain rfl := hv2; have HA := run_assert_yes (.agg #[.int .u8 k, .bool bb, .int .i64 n, .string s, .slice none 0 0, .slice none 0 0]); have HZ8 := Lib.hid (blk hb8 HZ7.out); have HB8 := Lib.hid (below_call0 HB7.out HB7.out.size hb8); have l8 := lt_of_block HZ8.out; obtain ⟨z0, z1, z2, z3, z4, z5, z6⟩ := cells6 (blk_alloc (o := .cells #[.int .u8 k, .bool bb, .int .i64 n, .string s, .slice none 0 0, .slice none 0 0] 79) HZ8.out); obtain ⟨x0, x1, x2, x3, x4, x5, x6⟩ := cells6 (heap_last w8 (.cells #[.int .u8 k, .bool bb, .int .i64 n, .string s, .slice none 0 0, .slice none 0 0] 79)); have HBA := Lib.hid (HB8.out.alloc HB8.out.size (.cells #[.int .u8 k, .bool bb, .int .i64 n, .string s, .slice none 0 0, .slice none 0 0] 79)); have d0 := keepC HBA.out h0; clear hb8))
  generalize w8.alloc (.cells #[.int .u8 k, .bool bb, .int .i64 n, .string s, .slice none 0 0, .slice none 0 0] 79) = W at *
  go_wp2_with fail
  refine bodyPost_ret (v := .tuple #[.agg #[.int .u8 k, .bool bb, .int .i64 n, .string s, .slice none 0 0, .slice none 0 0], .bool true]) (by simp [results, Tryz.results18, go_sem, cell_set_same, z0, z1, z2, z3, z4, z5]) rfl ?_
  exact ⟨setCells_below (Nat.le_refl _) [_, _, _, _, _, _] 0 _ HBA.out, rfl⟩
theorem lit_long (k : Int) (bb : Bool) (n : Int) (s : ByteArray) (hk : (k == 0) = false) (k0 : Int) (h7 : decide (7 ≤ k0) = false) (h0 : w.cell? ⟨b, o, none⟩ = some (.int .u8 k0)) (hl : 2 < len) (hR : ∀ w', Below w.heap.size w w' → Calls Tryz.prog 19 #[.slice (some ⟨b, o, none⟩) len c] w' fun e w2 => e = .returned (.bool true) ∧ Below w'.heap.size w' w2)
    (hT : ∀ w', Below w.heap.size w w' → Calls Tryz.prog 23 #[.slice (some ⟨b, o, none⟩) 1 c] w' (FirstPost w' (some (.mk k bb n s .nil .nil)))) (hc : len ≤ c) (hc2 : 1 ≤ len) (hlm : len ≤ LIM) :
    Calls Tryz.prog 18 #[.slice (some ⟨b, o, none⟩) len c] w (LitPost w (none)) := by
  have HR := Lib.hid hR
  have HT := Lib.hid hT
  have HD := Lib.hid (below_new (w := w) zeroO)
  have HZ := Lib.hid (heap_last w zeroO)
  have e1 : (1 : Int) ≤ (c : Int) := by omega
  have e2 : (1 : Nat) ≤ c := by omega
  unfold LIM at hlm
  have hl1 : ((len : Int) == 1) = false := by simp; omega
  have hl2 : ((len : Int) == 2) = false := by simp; omega
  clear hR hT
  go_enter Tryz.func18, Tryz.ntmps18
  go_upto_region 5 with (first | (go_at_call 19; refine (HR.out _ HD.out).mono ?_; rintro e w7 ⟨rfl, hb7⟩; have HZ7 := Lib.hid (blk hb7 HZ.out); have HB7 := Lib.hid (below_call0 HD.out HD.out.size hb7); clear hb7) | (go_at_call 23; refine (HT.out _ HB7.out).mono ?_; rintro e w8 ⟨hb8, v, rfl, hv1, hv2⟩; obtain rfl := hv2; have HA := run_assert_yes (.agg #[.int .u8 k, .bool bb, .int .i64 n, .string s, .slice none 0 0, .slice none 0 0]); have HZ8 := Lib.hid (blk hb8 HZ7.out); have HB8 := Lib.hid (below_call0 HB7.out HB7.out.size hb8); have l8 := lt_of_block HZ8.out; obtain ⟨z0, z1, z2, z3, z4, z5, z6⟩ := cells6 (blk_alloc (o := .cells #[.int .u8 k, .bool bb, .int .i64 n, .string s, .slice none 0 0, .slice none 0 0] 79) HZ8.out); obtain ⟨x0, x1, x2, x3, x4, x5, x6⟩ := cells6 (heap_last w8 (.cells #[.int .u8 k, .bool bb, .int .i64 n, .string s, .slice none 0 0, .slice none 0 0] 79)); have HBA := Lib.hid (HB8.out.alloc HB8.out.size (.cells #[.int .u8 k, .bool bb, .int .i64 n, .string s, .slice none 0 0, .slice none 0 0] 79)); have d0 := keepC HBA.out h0; clear hb8))
  generalize w8.alloc (.cells #[.int .u8 k, .bool bb, .int .i64 n, .string s, .slice none 0 0, .slice none 0 0] 79) = W at *
  go_wp2_with fail
  refine bodyPost_ret (v := .tuple #[zeroV, .bool false]) (by simp [results, Tryz.results18, go_sem, cell_set_same, z0, z1, z2, z3, z4, z5]) rfl ?_
  exact ⟨setCells_below (Nat.le_refl _) [_, _, _, _, _, _] 0 _ HBA.out, rfl⟩
theorem lit_two (k : Int) (bb : Bool) (n : Int) (s : ByteArray) (hk : (k == 0) = false) (k0 : Int) (h7 : decide (7 ≤ k0) = false) (h0 : w.cell? ⟨b, o, none⟩ = some (.int .u8 k0)) (hl : len = 2) (h4 : (k0 == 4) = false) (hR : ∀ w', Below w.heap.size w w' → Calls Tryz.prog 19 #[.slice (some ⟨b, o, none⟩) len c] w' fun e w2 => e = .returned (.bool true) ∧ Below w'.heap.size w' w2)
    (hT : ∀ w', Below w.heap.size w w' → Calls Tryz.prog 23 #[.slice (some ⟨b, o, none⟩) 1 c] w' (FirstPost w' (some (.mk k bb n s .nil .nil)))) (hc : len ≤ c) (hc2 : 1 ≤ len) (hlm : len ≤ LIM) :
    Calls Tryz.prog 18 #[.slice (some ⟨b, o, none⟩) len c] w (LitPost w (none)) := by
  have HR := Lib.hid hR
  have HT := Lib.hid hT
  have HD := Lib.hid (below_new (w := w) zeroO)
  have HZ := Lib.hid (heap_last w zeroO)
  have e1 : (1 : Int) ≤ (c : Int) := by omega
  have e2 : (1 : Nat) ≤ c := by omega
  unfold LIM at hlm
  subst hl
  clear hR hT
  go_enter Tryz.func18, Tryz.ntmps18
  go_upto_region 5 with (first | (go_at_call 19; refine (HR.out _ HD.out).mono ?_; rintro e w7 ⟨rfl, hb7⟩; have HZ7 := Lib.hid (blk hb7 HZ.out); have HB7 := Lib.hid (below_call0 HD.out HD.out.size hb7); clear hb7) | (go_at_call 23; refine (HT.out _ HB7.out).mono ?_; rintro e w8 ⟨hb8, v, rfl, hv1, hv2⟩; obtain rfl := hv2; have HA := run_assert_yes (.agg #[.int .u8 k, .bool bb, .int .i64 n, .string s, .slice none 0 0, .slice none 0 0]); have HZ8 := Lib.hid (blk hb8 HZ7.out); have HB8 := Lib.hid (below_call0 HB7.out HB7.out.size hb8); have l8 := lt_of_block HZ8.out; obtain ⟨z0, z1, z2, z3, z4, z5, z6⟩ := cells6 (blk_alloc (o := .cells #[.int .u8 k, .bool bb, .int .i64 n, .string s, .slice none 0 0, .slice none 0 0] 79) HZ8.out); obtain ⟨x0, x1, x2, x3, x4, x5, x6⟩ := cells6 (heap_last w8 (.cells #[.int .u8 k, .bool bb, .int .i64 n, .string s, .slice none 0 0, .slice none 0 0] 79)); have HBA := Lib.hid (HB8.out.alloc HB8.out.size (.cells #[.int .u8 k, .bool bb, .int .i64 n, .string s, .slice none 0 0, .slice none 0 0] 79)); have d0 := keepC HBA.out h0; clear hb8))
  generalize w8.alloc (.cells #[.int .u8 k, .bool bb, .int .i64 n, .string s, .slice none 0 0, .slice none 0 0] 79) = W at *
  go_wp2_with fail
  refine bodyPost_ret (v := .tuple #[zeroV, .bool false]) (by simp [results, Tryz.results18, go_sem, cell_set_same, z0, z1, z2, z3, z4, z5]) rfl ?_
  exact ⟨setCells_below (Nat.le_refl _) [_, _, _, _, _, _] 0 _ HBA.out, rfl⟩
theorem lit_not (k : Int) (bb : Bool) (n : Int) (s : ByteArray) (hk : (k == 0) = false) (k0 : Int) (h7 : decide (7 ≤ k0) = false) (h0 : w.cell? ⟨b, o, none⟩ = some (.int .u8 k0)) (k1 : Int) (h1 : w.cell? ⟨b, o + 3, none⟩ = some (.int .u8 k1)) (h4 : (k0 == 4) = true) (hl : len = 2) (h9 : (k1 == 9) = false) (hR : ∀ w', Below w.heap.size w w' → Calls Tryz.prog 19 #[.slice (some ⟨b, o, none⟩) len c] w' fun e w2 => e = .returned (.bool true) ∧ Below w'.heap.size w' w2)
    (hT : ∀ w', Below w.heap.size w w' → Calls Tryz.prog 23 #[.slice (some ⟨b, o, none⟩) 1 c] w' (FirstPost w' (some (.mk k bb n s .nil .nil)))) (hc : len ≤ c) (hc2 : 1 ≤ len) (hlm : len ≤ LIM) :
    Calls Tryz.prog 18 #[.slice (some ⟨b, o, none⟩) len c] w (LitPost w (none)) := by
  have HR := Lib.hid hR
  have HT := Lib.hid hT
  have HD := Lib.hid (below_new (w := w) zeroO)
  have HZ := Lib.hid (heap_last w zeroO)
  have e1 : (1 : Int) ≤ (c : Int) := by omega
  have e2 : (1 : Nat) ≤ c := by omega
  unfold LIM at hlm
  subst hl
  clear hR hT
  go_enter Tryz.func18, Tryz.ntmps18
  go_upto_region 5 with (first | (go_at_call 19; refine (HR.out _ HD.out).mono ?_; rintro e w7 ⟨rfl, hb7⟩; have HZ7 := Lib.hid (blk hb7 HZ.out); have HB7 := Lib.hid (below_call0 HD.out HD.out.size hb7); clear hb7) | (go_at_call 23; refine (HT.out _ HB7.out).mono ?_; rintro e w8 ⟨hb8, v, rfl, hv1, hv2⟩; obtain rfl := hv2; have HA := run_assert_yes (.agg #[.int .u8 k, .bool bb, .int .i64 n, .string s, .slice none 0 0, .slice none 0 0]); have HZ8 := Lib.hid (blk hb8 HZ7.out); have HB8 := Lib.hid (below_call0 HB7.out HB7.out.size hb8); have l8 := lt_of_block HZ8.out; obtain ⟨z0, z1, z2, z3, z4, z5, z6⟩ := cells6 (blk_alloc (o := .cells #[.int .u8 k, .bool bb, .int .i64 n, .string s, .slice none 0 0, .slice none 0 0] 79) HZ8.out); obtain ⟨x0, x1, x2, x3, x4, x5, x6⟩ := cells6 (heap_last w8 (.cells #[.int .u8 k, .bool bb, .int .i64 n, .string s, .slice none 0 0, .slice none 0 0] 79)); have HBA := Lib.hid (HB8.out.alloc HB8.out.size (.cells #[.int .u8 k, .bool bb, .int .i64 n, .string s, .slice none 0 0, .slice none 0 0] 79)); have d0 := keepC HBA.out h0; have d1 := keepC HBA.out h1; clear hb8))
  generalize w8.alloc (.cells #[.int .u8 k, .bool bb, .int .i64 n, .string s, .slice none 0 0, .slice none 0 0] 79) = W at *
  go_wp2_with fail
  refine bodyPost_ret (v := .tuple #[zeroV, .bool false]) (by simp [results, Tryz.results18, go_sem, cell_set_same, z0, z1, z2, z3, z4, z5]) rfl ?_
  exact ⟨setCells_below (Nat.le_refl _) [_, _, _, _, _, _] 0 _ HBA.out, rfl⟩
theorem lit_neg (k : Int) (bb : Bool) (n : Int) (s : ByteArray) (hk : (k == 0) = false) (k0 : Int) (h7 : decide (7 ≤ k0) = false) (h0 : w.cell? ⟨b, o, none⟩ = some (.int .u8 k0)) (k1 : Int) (h1 : w.cell? ⟨b, o + 3, none⟩ = some (.int .u8 k1)) (h4 : (k0 == 4) = true) (hl : len = 2) (h9 : (k1 == 9) = true) (hn : IntKind.i64.wrap (-n) = -n) (hR : ∀ w', Below w.heap.size w w' → Calls Tryz.prog 19 #[.slice (some ⟨b, o, none⟩) len c] w' fun e w2 => e = .returned (.bool true) ∧ Below w'.heap.size w' w2)
    (hT : ∀ w', Below w.heap.size w w' → Calls Tryz.prog 23 #[.slice (some ⟨b, o, none⟩) 1 c] w' (FirstPost w' (some (.mk k bb n s .nil .nil)))) (hc : len ≤ c) (hc2 : 1 ≤ len) (hlm : len ≤ LIM) :
    Calls Tryz.prog 18 #[.slice (some ⟨b, o, none⟩) len c] w (LitPost w (some (intV (-n)))) := by
  have HR := Lib.hid hR
  have HT := Lib.hid hT
  have HD := Lib.hid (below_new (w := w) zeroO)
  have HZ := Lib.hid (heap_last w zeroO)
  have e1 : (1 : Int) ≤ (c : Int) := by omega
  have e2 : (1 : Nat) ≤ c := by omega
  unfold LIM at hlm
  subst hl
  clear hR hT
  go_enter Tryz.func18, Tryz.ntmps18
  go_upto_region 5 with (first | (go_at_call 19; refine (HR.out _ HD.out).mono ?_; rintro e w7 ⟨rfl, hb7⟩; have HZ7 := Lib.hid (blk hb7 HZ.out); have HB7 := Lib.hid (below_call0 HD.out HD.out.size hb7); clear hb7) | (go_at_call 23; refine (HT.out _ HB7.out).mono ?_; rintro e w8 ⟨hb8, v, rfl, hv1, hv2⟩; obtain rfl := hv2; have HA := run_assert_yes (.agg #[.int .u8 k, .bool bb, .int .i64 n, .string s, .slice none 0 0, .slice none 0 0]); have HZ8 := Lib.hid (blk hb8 HZ7.out); have HB8 := Lib.hid (below_call0 HB7.out HB7.out.size hb8); have l8 := lt_of_block HZ8.out; obtain ⟨z0, z1, z2, z3, z4, z5, z6⟩ := cells6 (blk_alloc (o := .cells #[.int .u8 k, .bool bb, .int .i64 n, .string s, .slice none 0 0, .slice none 0 0] 79) HZ8.out); obtain ⟨x0, x1, x2, x3, x4, x5, x6⟩ := cells6 (heap_last w8 (.cells #[.int .u8 k, .bool bb, .int .i64 n, .string s, .slice none 0 0, .slice none 0 0] 79)); have HBA := Lib.hid (HB8.out.alloc HB8.out.size (.cells #[.int .u8 k, .bool bb, .int .i64 n, .string s, .slice none 0 0, .slice none 0 0] 79)); have d0 := keepC HBA.out h0; have d1 := keepC HBA.out h1; clear hb8))
  generalize w8.alloc (.cells #[.int .u8 k, .bool bb, .int .i64 n, .string s, .slice none 0 0, .slice none 0 0] 79) = W at *
  go_wp2_with fail
  refine bodyPost_ret (v := .tuple #[.agg #[.int .u8 2, .bool false, .int .i64 (-n), .string ⟨#[]⟩, .slice none 0 0, .slice none 0 0], .bool true]) (by simp [results, Tryz.results18, go_sem, cell_set_same, z0, z1, z2, z3, z4, z5]) rfl ?_
  exact ⟨setCells_below (Nat.le_refl _) [_, _, _, _, _, _] 0 _ HBA.out, rfl⟩
end
end Go.Proofs.YtgjgllfeinjpnaaGreatDoor
