import Derived.Test.YtbemgcjckchdjaaGreatDoorLEa
/- expr.held. -/
namespace Go.Proofs.YtbemgcjckchdjaaGreatDoor
open Go.RowKit
set_option linter.unusedSimpArgs false
set_option linter.unusedVariables false
theorem Ax {w : World} (o o' o'' : Obj) : Below w.heap.size w (((w.alloc o).alloc o').alloc o'') := (((Below.refl _ _).alloc (Nat.le_refl _) _).alloc (by simp) _).alloc (by simp; omega) _
set_option maxHeartbeats 1000000 in
set_option maxRecDepth 100000 in
theorem Rg (k z : Int) (k1 : Int) (b1 : Bool) (n1 : Int) (s1 : ByteArray) (a1 : Option Addr) (l1 c1 : Nat) (e1 : Option Addr) (f1 d1 : Nat) (k2 : Int) (b2 : Bool) (n2 : Int) (s2 : ByteArray) (a2 : Option Addr) (l2 c2 : Nat) (e2 : Option Addr) (f2 d2 : Nat) (w : World)
  (hc : ∀ w', Below w.heap.size w w' → Calls Tryz.prog 227 #[.agg #[.int .u8 k1, .bool b1, .int .i64 n1, .string s1, .slice a1 l1 c1, .slice e1 f1 d1], .agg #[.int .u8 k2, .bool b2, .int .i64 n2, .string s2, .slice a2 l2 c2, .slice e2 f2 d2]] w' fun x w2 => x = .returned (.int .i64 z) ∧ Below w'.heap.size w' w2) (q15 : (k == 15) = true)  :
  Calls Tryz.prog 223 #[.int .u8 k, .agg #[.int .u8 k1, .bool b1, .int .i64 n1, .string s1, .slice a1 l1 c1, .slice e1 f1 d1], .agg #[.int .u8 k2, .bool b2, .int .i64 n2, .string s2, .slice a2 l2 c2, .slice e2 f2 d2]] w (EvPost w (AK (z == 0), 0)) := by
 have HC := Lib.hid hc
 clear hc
 go_enter Tryz.func223, Tryz.ntmps223
 go_upto_region 1 with (fail)
 have hD := Ax (w := w) (.cells #[.int .u8 k1, .bool b1, .int .i64 n1, .string s1, .slice a1 l1 c1, .slice e1 f1 d1] 27) (.cells #[.int .u8 k2, .bool b2, .int .i64 n2, .string s2, .slice a2 l2 c2, .slice e2 f2 d2] 27) Ah
 have hA := Af (o := Ah) (Af (o := .cells #[.int .u8 k2, .bool b2, .int .i64 n2, .string s2, .slice a2 l2 c2, .slice e2 f2 d2] 27) (Ab w (.cells #[.int .u8 k1, .bool b1, .int .i64 n1, .string s1, .slice a1 l1 c1, .slice e1 f1 d1] 27)))
 have hB := Af (o := Ah) (Ab (w.alloc (.cells #[.int .u8 k1, .bool b1, .int .i64 n1, .string s1, .slice a1 l1 c1, .slice e1 f1 d1] 27)) (.cells #[.int .u8 k2, .bool b2, .int .i64 n2, .string s2, .slice a2 l2 c2, .slice e2 f2 d2] 27))
 have hZ := Ab ((w.alloc (.cells #[.int .u8 k1, .bool b1, .int .i64 n1, .string s1, .slice a1 l1 c1, .slice e1 f1 d1] 27)).alloc (.cells #[.int .u8 k2, .bool b2, .int .i64 n2, .string s2, .slice a2 l2 c2, .slice e2 f2 d2] 27)) Ah
 have ez1 : (w.alloc (.cells #[.int .u8 k1, .bool b1, .int .i64 n1, .string s1, .slice a1 l1 c1, .slice e1 f1 d1] 27)).heap.size = w.heap.size + 1 := by simp
 have ez2 : ((w.alloc (.cells #[.int .u8 k1, .bool b1, .int .i64 n1, .string s1, .slice a1 l1 c1, .slice e1 f1 d1] 27)).alloc (.cells #[.int .u8 k2, .bool b2, .int .i64 n2, .string s2, .slice a2 l2 c2, .slice e2 f2 d2] 27)).heap.size = w.heap.size + 1 + 1 := by simp
 rw [ez1] at hB
 rw [ez2] at hZ
 generalize ((w.alloc (.cells #[.int .u8 k1, .bool b1, .int .i64 n1, .string s1, .slice a1 l1 c1, .slice e1 f1 d1] 27)).alloc (.cells #[.int .u8 k2, .bool b2, .int .i64 n2, .string s2, .slice a2 l2 c2, .slice e2 f2 d2] 27)).alloc Ah = W at *
 have HA := Lib.hid hA
 have HB := Lib.hid hB
 have HZ := Lib.hid hZ
 have HD := Lib.hid hD
 obtain ⟨x0, x1, x2, x3, x4, x5, x6⟩ := Ae hA
 obtain ⟨y0, y1, y2, y3, y4, y5, y6⟩ := Ae hB
 clear hA hB hZ hD ez1 ez2
 go_wp2_with (first | (go_at_call 227; refine (HC.out _ HD.out).mono ?_; rintro e w3 ⟨rfl, hb3⟩; clear x0 x1 x2 x3 x4 x5 x6 y0 y1 y2 y3 y4 y5 y6; have HZ3 := Lib.hid (blk hb3 HZ.out); have HB3 := Lib.hid (Aa HD.out HD.out.size hb3); obtain ⟨x0, x1, x2, x3, x4, x5, x6⟩ := Ae (blk hb3 HA.out); obtain ⟨y0, y1, y2, y3, y4, y5, y6⟩ := Ae (blk hb3 HB.out); obtain ⟨z0, z1, z2, z3, z4, z5, z6⟩ := Ae HZ3.out; clear hb3) | (go_at_call 96; refine (B6 _ _).mono ?_; rintro e w4 ⟨rfl, hb4⟩; clear x0 x1 x2 x3 x4 x5 x6 y0 y1 y2 y3 y4 y5 y6 z0 z1 z2 z3 z4 z5 z6; have HB4 := Lib.hid (Aa HB3.out HB3.out.size hb4); obtain ⟨z0, z1, z2, z3, z4, z5, z6⟩ := Ae (blk hb4 HZ3.out); clear hb4))
 refine bodyPost_ret (v := .tuple #[.agg #[.int .u8 1, .bool (z == 0), .int .i64 0, .string ⟨#[]⟩, .slice none 0 0, .slice none 0 0], .int .i64 0]) (by simp [results, Tryz.results223, go_sem, Ai, z0, z1, z2, z3, z4, z5]) rfl ?_
 exact CF (Ag (Nat.le_succ_of_le (Nat.le_succ _)) [_, _, _, _, _, _] 0 _ HB4.out)
set_option maxHeartbeats 1000000 in
set_option maxRecDepth 100000 in
theorem Rh (k z : Int) (k1 : Int) (b1 : Bool) (n1 : Int) (s1 : ByteArray) (a1 : Option Addr) (l1 c1 : Nat) (e1 : Option Addr) (f1 d1 : Nat) (k2 : Int) (b2 : Bool) (n2 : Int) (s2 : ByteArray) (a2 : Option Addr) (l2 c2 : Nat) (e2 : Option Addr) (f2 d2 : Nat) (w : World)
  (hc : ∀ w', Below w.heap.size w w' → Calls Tryz.prog 227 #[.agg #[.int .u8 k1, .bool b1, .int .i64 n1, .string s1, .slice a1 l1 c1, .slice e1 f1 d1], .agg #[.int .u8 k2, .bool b2, .int .i64 n2, .string s2, .slice a2 l2 c2, .slice e2 f2 d2]] w' fun x w2 => x = .returned (.int .i64 z) ∧ Below w'.heap.size w' w2) (q15 : (k == 15) = false) (q16 : (k == 16) = true)  :
  Calls Tryz.prog 223 #[.int .u8 k, .agg #[.int .u8 k1, .bool b1, .int .i64 n1, .string s1, .slice a1 l1 c1, .slice e1 f1 d1], .agg #[.int .u8 k2, .bool b2, .int .i64 n2, .string s2, .slice a2 l2 c2, .slice e2 f2 d2]] w (EvPost w (AK (z != 0), 0)) := by
 have HC := Lib.hid hc
 clear hc
 go_enter Tryz.func223, Tryz.ntmps223
 go_upto_region 1 with (fail)
 have hD := Ax (w := w) (.cells #[.int .u8 k1, .bool b1, .int .i64 n1, .string s1, .slice a1 l1 c1, .slice e1 f1 d1] 27) (.cells #[.int .u8 k2, .bool b2, .int .i64 n2, .string s2, .slice a2 l2 c2, .slice e2 f2 d2] 27) Ah
 have hA := Af (o := Ah) (Af (o := .cells #[.int .u8 k2, .bool b2, .int .i64 n2, .string s2, .slice a2 l2 c2, .slice e2 f2 d2] 27) (Ab w (.cells #[.int .u8 k1, .bool b1, .int .i64 n1, .string s1, .slice a1 l1 c1, .slice e1 f1 d1] 27)))
 have hB := Af (o := Ah) (Ab (w.alloc (.cells #[.int .u8 k1, .bool b1, .int .i64 n1, .string s1, .slice a1 l1 c1, .slice e1 f1 d1] 27)) (.cells #[.int .u8 k2, .bool b2, .int .i64 n2, .string s2, .slice a2 l2 c2, .slice e2 f2 d2] 27))
 have hZ := Ab ((w.alloc (.cells #[.int .u8 k1, .bool b1, .int .i64 n1, .string s1, .slice a1 l1 c1, .slice e1 f1 d1] 27)).alloc (.cells #[.int .u8 k2, .bool b2, .int .i64 n2, .string s2, .slice a2 l2 c2, .slice e2 f2 d2] 27)) Ah
 have ez1 : (w.alloc (.cells #[.int .u8 k1, .bool b1, .int .i64 n1, .string s1, .slice a1 l1 c1, .slice e1 f1 d1] 27)).heap.size = w.heap.size + 1 := by simp
 have ez2 : ((w.alloc (.cells #[.int .u8 k1, .bool b1, .int .i64 n1, .string s1, .slice a1 l1 c1, .slice e1 f1 d1] 27)).alloc (.cells #[.int .u8 k2, .bool b2, .int .i64 n2, .string s2, .slice a2 l2 c2, .slice e2 f2 d2] 27)).heap.size = w.heap.size + 1 + 1 := by simp
 rw [ez1] at hB
 rw [ez2] at hZ
 generalize ((w.alloc (.cells #[.int .u8 k1, .bool b1, .int .i64 n1, .string s1, .slice a1 l1 c1, .slice e1 f1 d1] 27)).alloc (.cells #[.int .u8 k2, .bool b2, .int .i64 n2, .string s2, .slice a2 l2 c2, .slice e2 f2 d2] 27)).alloc Ah = W at *
 have HA := Lib.hid hA
 have HB := Lib.hid hB
 have HZ := Lib.hid hZ
 have HD := Lib.hid hD
 obtain ⟨x0, x1, x2, x3, x4, x5, x6⟩ := Ae hA
 obtain ⟨y0, y1, y2, y3, y4, y5, y6⟩ := Ae hB
 clear hA hB hZ hD ez1 ez2
 go_wp2_with (first | (go_at_call 227; refine (HC.out _ HD.out).mono ?_; rintro e w3 ⟨rfl, hb3⟩; clear x0 x1 x2 x3 x4 x5 x6 y0 y1 y2 y3 y4 y5 y6; have HZ3 := Lib.hid (blk hb3 HZ.out); have HB3 := Lib.hid (Aa HD.out HD.out.size hb3); obtain ⟨x0, x1, x2, x3, x4, x5, x6⟩ := Ae (blk hb3 HA.out); obtain ⟨y0, y1, y2, y3, y4, y5, y6⟩ := Ae (blk hb3 HB.out); obtain ⟨z0, z1, z2, z3, z4, z5, z6⟩ := Ae HZ3.out; clear hb3) | (go_at_call 96; refine (B6 _ _).mono ?_; rintro e w4 ⟨rfl, hb4⟩; clear x0 x1 x2 x3 x4 x5 x6 y0 y1 y2 y3 y4 y5 y6 z0 z1 z2 z3 z4 z5 z6; have HB4 := Lib.hid (Aa HB3.out HB3.out.size hb4); obtain ⟨z0, z1, z2, z3, z4, z5, z6⟩ := Ae (blk hb4 HZ3.out); clear hb4))
 refine bodyPost_ret (v := .tuple #[.agg #[.int .u8 1, .bool (z != 0), .int .i64 0, .string ⟨#[]⟩, .slice none 0 0, .slice none 0 0], .int .i64 0]) (by simp [results, Tryz.results223, go_sem, Ai, z0, z1, z2, z3, z4, z5]) rfl ?_
 exact CF (Ag (Nat.le_succ_of_le (Nat.le_succ _)) [_, _, _, _, _, _] 0 _ HB4.out)
set_option maxHeartbeats 1000000 in
set_option maxRecDepth 100000 in
theorem ME (k z : Int) (k1 : Int) (b1 : Bool) (n1 : Int) (s1 : ByteArray) (a1 : Option Addr) (l1 c1 : Nat) (e1 : Option Addr) (f1 d1 : Nat) (k2 : Int) (b2 : Bool) (n2 : Int) (s2 : ByteArray) (a2 : Option Addr) (l2 c2 : Nat) (e2 : Option Addr) (f2 d2 : Nat) (w : World)
  (hc : ∀ w', Below w.heap.size w w' → Calls Tryz.prog 227 #[.agg #[.int .u8 k1, .bool b1, .int .i64 n1, .string s1, .slice a1 l1 c1, .slice e1 f1 d1], .agg #[.int .u8 k2, .bool b2, .int .i64 n2, .string s2, .slice a2 l2 c2, .slice e2 f2 d2]] w' fun x w2 => x = .returned (.int .i64 z) ∧ Below w'.heap.size w' w2) (q15 : (k == 15) = false) (q16 : (k == 16) = false) (hne : (k1 != k2) = true)  :
  Calls Tryz.prog 223 #[.int .u8 k, .agg #[.int .u8 k1, .bool b1, .int .i64 n1, .string s1, .slice a1 l1 c1, .slice e1 f1 d1], .agg #[.int .u8 k2, .bool b2, .int .i64 n2, .string s2, .slice a2 l2 c2, .slice e2 f2 d2]] w (EvPost w (Am, 5)) := by
 have HC := Lib.hid hc
 clear hc
 go_enter Tryz.func223, Tryz.ntmps223
 go_upto_region 1 with (fail)
 have hD := Ax (w := w) (.cells #[.int .u8 k1, .bool b1, .int .i64 n1, .string s1, .slice a1 l1 c1, .slice e1 f1 d1] 27) (.cells #[.int .u8 k2, .bool b2, .int .i64 n2, .string s2, .slice a2 l2 c2, .slice e2 f2 d2] 27) Ah
 have hA := Af (o := Ah) (Af (o := .cells #[.int .u8 k2, .bool b2, .int .i64 n2, .string s2, .slice a2 l2 c2, .slice e2 f2 d2] 27) (Ab w (.cells #[.int .u8 k1, .bool b1, .int .i64 n1, .string s1, .slice a1 l1 c1, .slice e1 f1 d1] 27)))
 have hB := Af (o := Ah) (Ab (w.alloc (.cells #[.int .u8 k1, .bool b1, .int .i64 n1, .string s1, .slice a1 l1 c1, .slice e1 f1 d1] 27)) (.cells #[.int .u8 k2, .bool b2, .int .i64 n2, .string s2, .slice a2 l2 c2, .slice e2 f2 d2] 27))
 have hZ := Ab ((w.alloc (.cells #[.int .u8 k1, .bool b1, .int .i64 n1, .string s1, .slice a1 l1 c1, .slice e1 f1 d1] 27)).alloc (.cells #[.int .u8 k2, .bool b2, .int .i64 n2, .string s2, .slice a2 l2 c2, .slice e2 f2 d2] 27)) Ah
 have ez1 : (w.alloc (.cells #[.int .u8 k1, .bool b1, .int .i64 n1, .string s1, .slice a1 l1 c1, .slice e1 f1 d1] 27)).heap.size = w.heap.size + 1 := by simp
 have ez2 : ((w.alloc (.cells #[.int .u8 k1, .bool b1, .int .i64 n1, .string s1, .slice a1 l1 c1, .slice e1 f1 d1] 27)).alloc (.cells #[.int .u8 k2, .bool b2, .int .i64 n2, .string s2, .slice a2 l2 c2, .slice e2 f2 d2] 27)).heap.size = w.heap.size + 1 + 1 := by simp
 rw [ez1] at hB
 rw [ez2] at hZ
 generalize ((w.alloc (.cells #[.int .u8 k1, .bool b1, .int .i64 n1, .string s1, .slice a1 l1 c1, .slice e1 f1 d1] 27)).alloc (.cells #[.int .u8 k2, .bool b2, .int .i64 n2, .string s2, .slice a2 l2 c2, .slice e2 f2 d2] 27)).alloc Ah = W at *
 have HA := Lib.hid hA
 have HB := Lib.hid hB
 have HZ := Lib.hid hZ
 have HD := Lib.hid hD
 obtain ⟨x0, x1, x2, x3, x4, x5, x6⟩ := Ae hA
 obtain ⟨y0, y1, y2, y3, y4, y5, y6⟩ := Ae hB
 clear hA hB hZ hD ez1 ez2
 go_wp2_with (first | (go_at_call 227; refine (HC.out _ HD.out).mono ?_; rintro e w3 ⟨rfl, hb3⟩; clear x0 x1 x2 x3 x4 x5 x6 y0 y1 y2 y3 y4 y5 y6; have HZ3 := Lib.hid (blk hb3 HZ.out); have HB3 := Lib.hid (Aa HD.out HD.out.size hb3); obtain ⟨x0, x1, x2, x3, x4, x5, x6⟩ := Ae (blk hb3 HA.out); obtain ⟨y0, y1, y2, y3, y4, y5, y6⟩ := Ae (blk hb3 HB.out); obtain ⟨z0, z1, z2, z3, z4, z5, z6⟩ := Ae HZ3.out; clear hb3))
 refine bodyPost_ret (v := .tuple #[Bs, .int .i64 5]) (by simp [results, Tryz.results223, go_sem, Ai, z0, z1, z2, z3, z4, z5]) rfl ?_
 exact Bx (Ag (Nat.le_succ_of_le (Nat.le_succ _)) [_, _, _, _, _, _] 0 _ HB3.out)
set_option maxHeartbeats 1000000 in
set_option maxRecDepth 100000 in
theorem MF (k z : Int) (k1 : Int) (b1 : Bool) (n1 : Int) (s1 : ByteArray) (a1 : Option Addr) (l1 c1 : Nat) (e1 : Option Addr) (f1 d1 : Nat) (k2 : Int) (b2 : Bool) (n2 : Int) (s2 : ByteArray) (a2 : Option Addr) (l2 c2 : Nat) (e2 : Option Addr) (f2 d2 : Nat) (w : World)
  (hc : ∀ w', Below w.heap.size w w' → Calls Tryz.prog 227 #[.agg #[.int .u8 k1, .bool b1, .int .i64 n1, .string s1, .slice a1 l1 c1, .slice e1 f1 d1], .agg #[.int .u8 k2, .bool b2, .int .i64 n2, .string s2, .slice a2 l2 c2, .slice e2 f2 d2]] w' fun x w2 => x = .returned (.int .i64 z) ∧ Below w'.heap.size w' w2) (q15 : (k == 15) = false) (q16 : (k == 16) = false) (hne : (k1 != k2) = false) (hge : decide (5 ≤ k1) = true)  :
  Calls Tryz.prog 223 #[.int .u8 k, .agg #[.int .u8 k1, .bool b1, .int .i64 n1, .string s1, .slice a1 l1 c1, .slice e1 f1 d1], .agg #[.int .u8 k2, .bool b2, .int .i64 n2, .string s2, .slice a2 l2 c2, .slice e2 f2 d2]] w (EvPost w (Am, 5)) := by
 have HC := Lib.hid hc
 clear hc
 go_enter Tryz.func223, Tryz.ntmps223
 go_upto_region 1 with (fail)
 have hD := Ax (w := w) (.cells #[.int .u8 k1, .bool b1, .int .i64 n1, .string s1, .slice a1 l1 c1, .slice e1 f1 d1] 27) (.cells #[.int .u8 k2, .bool b2, .int .i64 n2, .string s2, .slice a2 l2 c2, .slice e2 f2 d2] 27) Ah
 have hA := Af (o := Ah) (Af (o := .cells #[.int .u8 k2, .bool b2, .int .i64 n2, .string s2, .slice a2 l2 c2, .slice e2 f2 d2] 27) (Ab w (.cells #[.int .u8 k1, .bool b1, .int .i64 n1, .string s1, .slice a1 l1 c1, .slice e1 f1 d1] 27)))
 have hB := Af (o := Ah) (Ab (w.alloc (.cells #[.int .u8 k1, .bool b1, .int .i64 n1, .string s1, .slice a1 l1 c1, .slice e1 f1 d1] 27)) (.cells #[.int .u8 k2, .bool b2, .int .i64 n2, .string s2, .slice a2 l2 c2, .slice e2 f2 d2] 27))
 have hZ := Ab ((w.alloc (.cells #[.int .u8 k1, .bool b1, .int .i64 n1, .string s1, .slice a1 l1 c1, .slice e1 f1 d1] 27)).alloc (.cells #[.int .u8 k2, .bool b2, .int .i64 n2, .string s2, .slice a2 l2 c2, .slice e2 f2 d2] 27)) Ah
 have ez1 : (w.alloc (.cells #[.int .u8 k1, .bool b1, .int .i64 n1, .string s1, .slice a1 l1 c1, .slice e1 f1 d1] 27)).heap.size = w.heap.size + 1 := by simp
 have ez2 : ((w.alloc (.cells #[.int .u8 k1, .bool b1, .int .i64 n1, .string s1, .slice a1 l1 c1, .slice e1 f1 d1] 27)).alloc (.cells #[.int .u8 k2, .bool b2, .int .i64 n2, .string s2, .slice a2 l2 c2, .slice e2 f2 d2] 27)).heap.size = w.heap.size + 1 + 1 := by simp
 rw [ez1] at hB
 rw [ez2] at hZ
 generalize ((w.alloc (.cells #[.int .u8 k1, .bool b1, .int .i64 n1, .string s1, .slice a1 l1 c1, .slice e1 f1 d1] 27)).alloc (.cells #[.int .u8 k2, .bool b2, .int .i64 n2, .string s2, .slice a2 l2 c2, .slice e2 f2 d2] 27)).alloc Ah = W at *
 have HA := Lib.hid hA
 have HB := Lib.hid hB
 have HZ := Lib.hid hZ
 have HD := Lib.hid hD
 obtain ⟨x0, x1, x2, x3, x4, x5, x6⟩ := Ae hA
 obtain ⟨y0, y1, y2, y3, y4, y5, y6⟩ := Ae hB
 clear hA hB hZ hD ez1 ez2
 go_wp2_with (first | (go_at_call 227; refine (HC.out _ HD.out).mono ?_; rintro e w3 ⟨rfl, hb3⟩; clear x0 x1 x2 x3 x4 x5 x6 y0 y1 y2 y3 y4 y5 y6; have HZ3 := Lib.hid (blk hb3 HZ.out); have HB3 := Lib.hid (Aa HD.out HD.out.size hb3); obtain ⟨x0, x1, x2, x3, x4, x5, x6⟩ := Ae (blk hb3 HA.out); obtain ⟨y0, y1, y2, y3, y4, y5, y6⟩ := Ae (blk hb3 HB.out); obtain ⟨z0, z1, z2, z3, z4, z5, z6⟩ := Ae HZ3.out; clear hb3))
 refine bodyPost_ret (v := .tuple #[Bs, .int .i64 5]) (by simp [results, Tryz.results223, go_sem, Ai, z0, z1, z2, z3, z4, z5]) rfl ?_
 exact Bx (Ag (Nat.le_succ_of_le (Nat.le_succ _)) [_, _, _, _, _, _] 0 _ HB3.out)
set_option maxHeartbeats 1000000 in
set_option maxRecDepth 100000 in
theorem Ri (k z : Int) (k1 : Int) (b1 : Bool) (n1 : Int) (s1 : ByteArray) (a1 : Option Addr) (l1 c1 : Nat) (e1 : Option Addr) (f1 d1 : Nat) (k2 : Int) (b2 : Bool) (n2 : Int) (s2 : ByteArray) (a2 : Option Addr) (l2 c2 : Nat) (e2 : Option Addr) (f2 d2 : Nat) (w : World)
  (hc : ∀ w', Below w.heap.size w w' → Calls Tryz.prog 227 #[.agg #[.int .u8 k1, .bool b1, .int .i64 n1, .string s1, .slice a1 l1 c1, .slice e1 f1 d1], .agg #[.int .u8 k2, .bool b2, .int .i64 n2, .string s2, .slice a2 l2 c2, .slice e2 f2 d2]] w' fun x w2 => x = .returned (.int .i64 z) ∧ Below w'.heap.size w' w2) (q15 : (k == 15) = false) (q16 : (k == 16) = false) (hne : (k1 != k2) = false) (hge : decide (5 ≤ k1) = false) (q17 : (k == 17) = true)  :
  Calls Tryz.prog 223 #[.int .u8 k, .agg #[.int .u8 k1, .bool b1, .int .i64 n1, .string s1, .slice a1 l1 c1, .slice e1 f1 d1], .agg #[.int .u8 k2, .bool b2, .int .i64 n2, .string s2, .slice a2 l2 c2, .slice e2 f2 d2]] w (EvPost w (AK (decide (z < 0)), 0)) := by
 have HC := Lib.hid hc
 clear hc
 go_enter Tryz.func223, Tryz.ntmps223
 go_upto_region 1 with (fail)
 have hD := Ax (w := w) (.cells #[.int .u8 k1, .bool b1, .int .i64 n1, .string s1, .slice a1 l1 c1, .slice e1 f1 d1] 27) (.cells #[.int .u8 k2, .bool b2, .int .i64 n2, .string s2, .slice a2 l2 c2, .slice e2 f2 d2] 27) Ah
 have hA := Af (o := Ah) (Af (o := .cells #[.int .u8 k2, .bool b2, .int .i64 n2, .string s2, .slice a2 l2 c2, .slice e2 f2 d2] 27) (Ab w (.cells #[.int .u8 k1, .bool b1, .int .i64 n1, .string s1, .slice a1 l1 c1, .slice e1 f1 d1] 27)))
 have hB := Af (o := Ah) (Ab (w.alloc (.cells #[.int .u8 k1, .bool b1, .int .i64 n1, .string s1, .slice a1 l1 c1, .slice e1 f1 d1] 27)) (.cells #[.int .u8 k2, .bool b2, .int .i64 n2, .string s2, .slice a2 l2 c2, .slice e2 f2 d2] 27))
 have hZ := Ab ((w.alloc (.cells #[.int .u8 k1, .bool b1, .int .i64 n1, .string s1, .slice a1 l1 c1, .slice e1 f1 d1] 27)).alloc (.cells #[.int .u8 k2, .bool b2, .int .i64 n2, .string s2, .slice a2 l2 c2, .slice e2 f2 d2] 27)) Ah
 have ez1 : (w.alloc (.cells #[.int .u8 k1, .bool b1, .int .i64 n1, .string s1, .slice a1 l1 c1, .slice e1 f1 d1] 27)).heap.size = w.heap.size + 1 := by simp
 have ez2 : ((w.alloc (.cells #[.int .u8 k1, .bool b1, .int .i64 n1, .string s1, .slice a1 l1 c1, .slice e1 f1 d1] 27)).alloc (.cells #[.int .u8 k2, .bool b2, .int .i64 n2, .string s2, .slice a2 l2 c2, .slice e2 f2 d2] 27)).heap.size = w.heap.size + 1 + 1 := by simp
 rw [ez1] at hB
 rw [ez2] at hZ
 generalize ((w.alloc (.cells #[.int .u8 k1, .bool b1, .int .i64 n1, .string s1, .slice a1 l1 c1, .slice e1 f1 d1] 27)).alloc (.cells #[.int .u8 k2, .bool b2, .int .i64 n2, .string s2, .slice a2 l2 c2, .slice e2 f2 d2] 27)).alloc Ah = W at *
 have HA := Lib.hid hA
 have HB := Lib.hid hB
 have HZ := Lib.hid hZ
 have HD := Lib.hid hD
 obtain ⟨x0, x1, x2, x3, x4, x5, x6⟩ := Ae hA
 obtain ⟨y0, y1, y2, y3, y4, y5, y6⟩ := Ae hB
 clear hA hB hZ hD ez1 ez2
 go_wp2_with (first | (go_at_call 227; refine (HC.out _ HD.out).mono ?_; rintro e w3 ⟨rfl, hb3⟩; clear x0 x1 x2 x3 x4 x5 x6 y0 y1 y2 y3 y4 y5 y6; have HZ3 := Lib.hid (blk hb3 HZ.out); have HB3 := Lib.hid (Aa HD.out HD.out.size hb3); obtain ⟨x0, x1, x2, x3, x4, x5, x6⟩ := Ae (blk hb3 HA.out); obtain ⟨y0, y1, y2, y3, y4, y5, y6⟩ := Ae (blk hb3 HB.out); obtain ⟨z0, z1, z2, z3, z4, z5, z6⟩ := Ae HZ3.out; clear hb3) | (go_at_call 96; refine (B6 _ _).mono ?_; rintro e w4 ⟨rfl, hb4⟩; clear x0 x1 x2 x3 x4 x5 x6 y0 y1 y2 y3 y4 y5 y6 z0 z1 z2 z3 z4 z5 z6; have HB4 := Lib.hid (Aa HB3.out HB3.out.size hb4); obtain ⟨z0, z1, z2, z3, z4, z5, z6⟩ := Ae (blk hb4 HZ3.out); clear hb4))
 refine bodyPost_ret (v := .tuple #[.agg #[.int .u8 1, .bool (decide (z < 0)), .int .i64 0, .string ⟨#[]⟩, .slice none 0 0, .slice none 0 0], .int .i64 0]) (by simp [results, Tryz.results223, go_sem, Ai, z0, z1, z2, z3, z4, z5]) rfl ?_
 exact CF (Ag (Nat.le_succ_of_le (Nat.le_succ _)) [_, _, _, _, _, _] 0 _ HB4.out)
set_option maxHeartbeats 1000000 in
set_option maxRecDepth 100000 in
theorem Rj (k z : Int) (k1 : Int) (b1 : Bool) (n1 : Int) (s1 : ByteArray) (a1 : Option Addr) (l1 c1 : Nat) (e1 : Option Addr) (f1 d1 : Nat) (k2 : Int) (b2 : Bool) (n2 : Int) (s2 : ByteArray) (a2 : Option Addr) (l2 c2 : Nat) (e2 : Option Addr) (f2 d2 : Nat) (w : World)
  (hc : ∀ w', Below w.heap.size w w' → Calls Tryz.prog 227 #[.agg #[.int .u8 k1, .bool b1, .int .i64 n1, .string s1, .slice a1 l1 c1, .slice e1 f1 d1], .agg #[.int .u8 k2, .bool b2, .int .i64 n2, .string s2, .slice a2 l2 c2, .slice e2 f2 d2]] w' fun x w2 => x = .returned (.int .i64 z) ∧ Below w'.heap.size w' w2) (q15 : (k == 15) = false) (q16 : (k == 16) = false) (hne : (k1 != k2) = false) (hge : decide (5 ≤ k1) = false) (q17 : (k == 17) = false) (q18 : (k == 18) = true)  :
  Calls Tryz.prog 223 #[.int .u8 k, .agg #[.int .u8 k1, .bool b1, .int .i64 n1, .string s1, .slice a1 l1 c1, .slice e1 f1 d1], .agg #[.int .u8 k2, .bool b2, .int .i64 n2, .string s2, .slice a2 l2 c2, .slice e2 f2 d2]] w (EvPost w (AK (decide (z < 1)), 0)) := by
 have HC := Lib.hid hc
 clear hc
 go_enter Tryz.func223, Tryz.ntmps223
 go_upto_region 1 with (fail)
 have hD := Ax (w := w) (.cells #[.int .u8 k1, .bool b1, .int .i64 n1, .string s1, .slice a1 l1 c1, .slice e1 f1 d1] 27) (.cells #[.int .u8 k2, .bool b2, .int .i64 n2, .string s2, .slice a2 l2 c2, .slice e2 f2 d2] 27) Ah
 have hA := Af (o := Ah) (Af (o := .cells #[.int .u8 k2, .bool b2, .int .i64 n2, .string s2, .slice a2 l2 c2, .slice e2 f2 d2] 27) (Ab w (.cells #[.int .u8 k1, .bool b1, .int .i64 n1, .string s1, .slice a1 l1 c1, .slice e1 f1 d1] 27)))
 have hB := Af (o := Ah) (Ab (w.alloc (.cells #[.int .u8 k1, .bool b1, .int .i64 n1, .string s1, .slice a1 l1 c1, .slice e1 f1 d1] 27)) (.cells #[.int .u8 k2, .bool b2, .int .i64 n2, .string s2, .slice a2 l2 c2, .slice e2 f2 d2] 27))
 have hZ := Ab ((w.alloc (.cells #[.int .u8 k1, .bool b1, .int .i64 n1, .string s1, .slice a1 l1 c1, .slice e1 f1 d1] 27)).alloc (.cells #[.int .u8 k2, .bool b2, .int .i64 n2, .string s2, .slice a2 l2 c2, .slice e2 f2 d2] 27)) Ah
 have ez1 : (w.alloc (.cells #[.int .u8 k1, .bool b1, .int .i64 n1, .string s1, .slice a1 l1 c1, .slice e1 f1 d1] 27)).heap.size = w.heap.size + 1 := by simp
 have ez2 : ((w.alloc (.cells #[.int .u8 k1, .bool b1, .int .i64 n1, .string s1, .slice a1 l1 c1, .slice e1 f1 d1] 27)).alloc (.cells #[.int .u8 k2, .bool b2, .int .i64 n2, .string s2, .slice a2 l2 c2, .slice e2 f2 d2] 27)).heap.size = w.heap.size + 1 + 1 := by simp
 rw [ez1] at hB
 rw [ez2] at hZ
 generalize ((w.alloc (.cells #[.int .u8 k1, .bool b1, .int .i64 n1, .string s1, .slice a1 l1 c1, .slice e1 f1 d1] 27)).alloc (.cells #[.int .u8 k2, .bool b2, .int .i64 n2, .string s2, .slice a2 l2 c2, .slice e2 f2 d2] 27)).alloc Ah = W at *
 have HA := Lib.hid hA
 have HB := Lib.hid hB
 have HZ := Lib.hid hZ
 have HD := Lib.hid hD
 obtain ⟨x0, x1, x2, x3, x4, x5, x6⟩ := Ae hA
 obtain ⟨y0, y1, y2, y3, y4, y5, y6⟩ := Ae hB
 clear hA hB hZ hD ez1 ez2
 go_wp2_with (first | (go_at_call 227; refine (HC.out _ HD.out).mono ?_; rintro e w3 ⟨rfl, hb3⟩; clear x0 x1 x2 x3 x4 x5 x6 y0 y1 y2 y3 y4 y5 y6; have HZ3 := Lib.hid (blk hb3 HZ.out); have HB3 := Lib.hid (Aa HD.out HD.out.size hb3); obtain ⟨x0, x1, x2, x3, x4, x5, x6⟩ := Ae (blk hb3 HA.out); obtain ⟨y0, y1, y2, y3, y4, y5, y6⟩ := Ae (blk hb3 HB.out); obtain ⟨z0, z1, z2, z3, z4, z5, z6⟩ := Ae HZ3.out; clear hb3) | (go_at_call 96; refine (B6 _ _).mono ?_; rintro e w4 ⟨rfl, hb4⟩; clear x0 x1 x2 x3 x4 x5 x6 y0 y1 y2 y3 y4 y5 y6 z0 z1 z2 z3 z4 z5 z6; have HB4 := Lib.hid (Aa HB3.out HB3.out.size hb4); obtain ⟨z0, z1, z2, z3, z4, z5, z6⟩ := Ae (blk hb4 HZ3.out); clear hb4))
 refine bodyPost_ret (v := .tuple #[.agg #[.int .u8 1, .bool (decide (z < 1)), .int .i64 0, .string ⟨#[]⟩, .slice none 0 0, .slice none 0 0], .int .i64 0]) (by simp [results, Tryz.results223, go_sem, Ai, z0, z1, z2, z3, z4, z5]) rfl ?_
 exact CF (Ag (Nat.le_succ_of_le (Nat.le_succ _)) [_, _, _, _, _, _] 0 _ HB4.out)
set_option maxHeartbeats 1000000 in
set_option maxRecDepth 100000 in
theorem Rk (k z : Int) (k1 : Int) (b1 : Bool) (n1 : Int) (s1 : ByteArray) (a1 : Option Addr) (l1 c1 : Nat) (e1 : Option Addr) (f1 d1 : Nat) (k2 : Int) (b2 : Bool) (n2 : Int) (s2 : ByteArray) (a2 : Option Addr) (l2 c2 : Nat) (e2 : Option Addr) (f2 d2 : Nat) (w : World)
  (hc : ∀ w', Below w.heap.size w w' → Calls Tryz.prog 227 #[.agg #[.int .u8 k1, .bool b1, .int .i64 n1, .string s1, .slice a1 l1 c1, .slice e1 f1 d1], .agg #[.int .u8 k2, .bool b2, .int .i64 n2, .string s2, .slice a2 l2 c2, .slice e2 f2 d2]] w' fun x w2 => x = .returned (.int .i64 z) ∧ Below w'.heap.size w' w2) (q15 : (k == 15) = false) (q16 : (k == 16) = false) (hne : (k1 != k2) = false) (hge : decide (5 ≤ k1) = false) (q17 : (k == 17) = false) (q18 : (k == 18) = false) (q19 : (k == 19) = true)  :
  Calls Tryz.prog 223 #[.int .u8 k, .agg #[.int .u8 k1, .bool b1, .int .i64 n1, .string s1, .slice a1 l1 c1, .slice e1 f1 d1], .agg #[.int .u8 k2, .bool b2, .int .i64 n2, .string s2, .slice a2 l2 c2, .slice e2 f2 d2]] w (EvPost w (AK (decide (0 < z)), 0)) := by
 have HC := Lib.hid hc
 clear hc
 go_enter Tryz.func223, Tryz.ntmps223
 go_upto_region 1 with (fail)
 have hD := Ax (w := w) (.cells #[.int .u8 k1, .bool b1, .int .i64 n1, .string s1, .slice a1 l1 c1, .slice e1 f1 d1] 27) (.cells #[.int .u8 k2, .bool b2, .int .i64 n2, .string s2, .slice a2 l2 c2, .slice e2 f2 d2] 27) Ah
 have hA := Af (o := Ah) (Af (o := .cells #[.int .u8 k2, .bool b2, .int .i64 n2, .string s2, .slice a2 l2 c2, .slice e2 f2 d2] 27) (Ab w (.cells #[.int .u8 k1, .bool b1, .int .i64 n1, .string s1, .slice a1 l1 c1, .slice e1 f1 d1] 27)))
 have hB := Af (o := Ah) (Ab (w.alloc (.cells #[.int .u8 k1, .bool b1, .int .i64 n1, .string s1, .slice a1 l1 c1, .slice e1 f1 d1] 27)) (.cells #[.int .u8 k2, .bool b2, .int .i64 n2, .string s2, .slice a2 l2 c2, .slice e2 f2 d2] 27))
 have hZ := Ab ((w.alloc (.cells #[.int .u8 k1, .bool b1, .int .i64 n1, .string s1, .slice a1 l1 c1, .slice e1 f1 d1] 27)).alloc (.cells #[.int .u8 k2, .bool b2, .int .i64 n2, .string s2, .slice a2 l2 c2, .slice e2 f2 d2] 27)) Ah
 have ez1 : (w.alloc (.cells #[.int .u8 k1, .bool b1, .int .i64 n1, .string s1, .slice a1 l1 c1, .slice e1 f1 d1] 27)).heap.size = w.heap.size + 1 := by simp
 have ez2 : ((w.alloc (.cells #[.int .u8 k1, .bool b1, .int .i64 n1, .string s1, .slice a1 l1 c1, .slice e1 f1 d1] 27)).alloc (.cells #[.int .u8 k2, .bool b2, .int .i64 n2, .string s2, .slice a2 l2 c2, .slice e2 f2 d2] 27)).heap.size = w.heap.size + 1 + 1 := by simp
 rw [ez1] at hB
 rw [ez2] at hZ
 generalize ((w.alloc (.cells #[.int .u8 k1, .bool b1, .int .i64 n1, .string s1, .slice a1 l1 c1, .slice e1 f1 d1] 27)).alloc (.cells #[.int .u8 k2, .bool b2, .int .i64 n2, .string s2, .slice a2 l2 c2, .slice e2 f2 d2] 27)).alloc Ah = W at *
 have HA := Lib.hid hA
 have HB := Lib.hid hB
 have HZ := Lib.hid hZ
 have HD := Lib.hid hD
 obtain ⟨x0, x1, x2, x3, x4, x5, x6⟩ := Ae hA
 obtain ⟨y0, y1, y2, y3, y4, y5, y6⟩ := Ae hB
 clear hA hB hZ hD ez1 ez2
 go_wp2_with (first | (go_at_call 227; refine (HC.out _ HD.out).mono ?_; rintro e w3 ⟨rfl, hb3⟩; clear x0 x1 x2 x3 x4 x5 x6 y0 y1 y2 y3 y4 y5 y6; have HZ3 := Lib.hid (blk hb3 HZ.out); have HB3 := Lib.hid (Aa HD.out HD.out.size hb3); obtain ⟨x0, x1, x2, x3, x4, x5, x6⟩ := Ae (blk hb3 HA.out); obtain ⟨y0, y1, y2, y3, y4, y5, y6⟩ := Ae (blk hb3 HB.out); obtain ⟨z0, z1, z2, z3, z4, z5, z6⟩ := Ae HZ3.out; clear hb3) | (go_at_call 96; refine (B6 _ _).mono ?_; rintro e w4 ⟨rfl, hb4⟩; clear x0 x1 x2 x3 x4 x5 x6 y0 y1 y2 y3 y4 y5 y6 z0 z1 z2 z3 z4 z5 z6; have HB4 := Lib.hid (Aa HB3.out HB3.out.size hb4); obtain ⟨z0, z1, z2, z3, z4, z5, z6⟩ := Ae (blk hb4 HZ3.out); clear hb4))
 refine bodyPost_ret (v := .tuple #[.agg #[.int .u8 1, .bool (decide (0 < z)), .int .i64 0, .string ⟨#[]⟩, .slice none 0 0, .slice none 0 0], .int .i64 0]) (by simp [results, Tryz.results223, go_sem, Ai, z0, z1, z2, z3, z4, z5]) rfl ?_
 exact CF (Ag (Nat.le_succ_of_le (Nat.le_succ _)) [_, _, _, _, _, _] 0 _ HB4.out)
set_option maxHeartbeats 1000000 in
set_option maxRecDepth 100000 in
theorem Rl (k z : Int) (k1 : Int) (b1 : Bool) (n1 : Int) (s1 : ByteArray) (a1 : Option Addr) (l1 c1 : Nat) (e1 : Option Addr) (f1 d1 : Nat) (k2 : Int) (b2 : Bool) (n2 : Int) (s2 : ByteArray) (a2 : Option Addr) (l2 c2 : Nat) (e2 : Option Addr) (f2 d2 : Nat) (w : World)
  (hc : ∀ w', Below w.heap.size w w' → Calls Tryz.prog 227 #[.agg #[.int .u8 k1, .bool b1, .int .i64 n1, .string s1, .slice a1 l1 c1, .slice e1 f1 d1], .agg #[.int .u8 k2, .bool b2, .int .i64 n2, .string s2, .slice a2 l2 c2, .slice e2 f2 d2]] w' fun x w2 => x = .returned (.int .i64 z) ∧ Below w'.heap.size w' w2) (q15 : (k == 15) = false) (q16 : (k == 16) = false) (hne : (k1 != k2) = false) (hge : decide (5 ≤ k1) = false) (q17 : (k == 17) = false) (q18 : (k == 18) = false) (q19 : (k == 19) = false)  :
  Calls Tryz.prog 223 #[.int .u8 k, .agg #[.int .u8 k1, .bool b1, .int .i64 n1, .string s1, .slice a1 l1 c1, .slice e1 f1 d1], .agg #[.int .u8 k2, .bool b2, .int .i64 n2, .string s2, .slice a2 l2 c2, .slice e2 f2 d2]] w (EvPost w (AK (decide (-1 < z)), 0)) := by
 have HC := Lib.hid hc
 clear hc
 go_enter Tryz.func223, Tryz.ntmps223
 go_upto_region 1 with (fail)
 have hD := Ax (w := w) (.cells #[.int .u8 k1, .bool b1, .int .i64 n1, .string s1, .slice a1 l1 c1, .slice e1 f1 d1] 27) (.cells #[.int .u8 k2, .bool b2, .int .i64 n2, .string s2, .slice a2 l2 c2, .slice e2 f2 d2] 27) Ah
 have hA := Af (o := Ah) (Af (o := .cells #[.int .u8 k2, .bool b2, .int .i64 n2, .string s2, .slice a2 l2 c2, .slice e2 f2 d2] 27) (Ab w (.cells #[.int .u8 k1, .bool b1, .int .i64 n1, .string s1, .slice a1 l1 c1, .slice e1 f1 d1] 27)))
 have hB := Af (o := Ah) (Ab (w.alloc (.cells #[.int .u8 k1, .bool b1, .int .i64 n1, .string s1, .slice a1 l1 c1, .slice e1 f1 d1] 27)) (.cells #[.int .u8 k2, .bool b2, .int .i64 n2, .string s2, .slice a2 l2 c2, .slice e2 f2 d2] 27))
 have hZ := Ab ((w.alloc (.cells #[.int .u8 k1, .bool b1, .int .i64 n1, .string s1, .slice a1 l1 c1, .slice e1 f1 d1] 27)).alloc (.cells #[.int .u8 k2, .bool b2, .int .i64 n2, .string s2, .slice a2 l2 c2, .slice e2 f2 d2] 27)) Ah
 have ez1 : (w.alloc (.cells #[.int .u8 k1, .bool b1, .int .i64 n1, .string s1, .slice a1 l1 c1, .slice e1 f1 d1] 27)).heap.size = w.heap.size + 1 := by simp
 have ez2 : ((w.alloc (.cells #[.int .u8 k1, .bool b1, .int .i64 n1, .string s1, .slice a1 l1 c1, .slice e1 f1 d1] 27)).alloc (.cells #[.int .u8 k2, .bool b2, .int .i64 n2, .string s2, .slice a2 l2 c2, .slice e2 f2 d2] 27)).heap.size = w.heap.size + 1 + 1 := by simp
 rw [ez1] at hB
 rw [ez2] at hZ
 generalize ((w.alloc (.cells #[.int .u8 k1, .bool b1, .int .i64 n1, .string s1, .slice a1 l1 c1, .slice e1 f1 d1] 27)).alloc (.cells #[.int .u8 k2, .bool b2, .int .i64 n2, .string s2, .slice a2 l2 c2, .slice e2 f2 d2] 27)).alloc Ah = W at *
 have HA := Lib.hid hA
 have HB := Lib.hid hB
 have HZ := Lib.hid hZ
 have HD := Lib.hid hD
 obtain ⟨x0, x1, x2, x3, x4, x5, x6⟩ := Ae hA
 obtain ⟨y0, y1, y2, y3, y4, y5, y6⟩ := Ae hB
 clear hA hB hZ hD ez1 ez2
 go_wp2_with (first | (go_at_call 227; refine (HC.out _ HD.out).mono ?_; rintro e w3 ⟨rfl, hb3⟩; clear x0 x1 x2 x3 x4 x5 x6 y0 y1 y2 y3 y4 y5 y6; have HZ3 := Lib.hid (blk hb3 HZ.out); have HB3 := Lib.hid (Aa HD.out HD.out.size hb3); obtain ⟨x0, x1, x2, x3, x4, x5, x6⟩ := Ae (blk hb3 HA.out); obtain ⟨y0, y1, y2, y3, y4, y5, y6⟩ := Ae (blk hb3 HB.out); obtain ⟨z0, z1, z2, z3, z4, z5, z6⟩ := Ae HZ3.out; clear hb3) | (go_at_call 96; refine (B6 _ _).mono ?_; rintro e w4 ⟨rfl, hb4⟩; clear x0 x1 x2 x3 x4 x5 x6 y0 y1 y2 y3 y4 y5 y6 z0 z1 z2 z3 z4 z5 z6; have HB4 := Lib.hid (Aa HB3.out HB3.out.size hb4); obtain ⟨z0, z1, z2, z3, z4, z5, z6⟩ := Ae (blk hb4 HZ3.out); clear hb4))
 refine bodyPost_ret (v := .tuple #[.agg #[.int .u8 1, .bool (decide (-1 < z)), .int .i64 0, .string ⟨#[]⟩, .slice none 0 0, .slice none 0 0], .int .i64 0]) (by simp [results, Tryz.results223, go_sem, Ai, z0, z1, z2, z3, z4, z5]) rfl ?_
 exact CF (Ag (Nat.le_succ_of_le (Nat.le_succ _)) [_, _, _, _, _, _] 0 _ HB4.out)
theorem MD (k : Int) (x y : VT) (v0 v1 v2 v3 v4 v5 u0 u1 u2 u3 u4 u5 : Value) (w : World) (hx : RV w 0 w.heap.size x [v0, v1, v2, v3, v4, v5]) (hy : RV w 0 w.heap.size y [u0, u1, u2, u3, u4, u5]) :
   Calls Tryz.prog 223 #[.int .u8 k, .agg #[v0, v1, v2, v3, v4, v5], .agg #[u0, u1, u2, u3, u4, u5]] w (EvPost w (DT k x y)) := by
 have hc := fun (w' : World) (hb : Below w.heap.size w w') => Ly x y w' _ _ w'.heap.size (hx.grow hb) (hy.grow hb) (Nat.le_refl _)
 obtain ⟨k1, b1, n1, s1, l1, f1, a1, c1, e1, d1, rfl, h1, _⟩ := RV.mk_parts hx
 obtain ⟨k2, b2, n2, s2, l2, f2, a2, c2, e2, d2, rfl, h2, _⟩ := RV.mk_parts hy
 simp only [List.cons.injEq, and_true] at h1 h2
 obtain ⟨rfl, rfl, rfl, rfl, rfl, rfl⟩ := h1
 obtain ⟨rfl, rfl, rfl, rfl, rfl, rfl⟩ := h2
 unfold DT
 generalize BJ (.mk k1 b1 n1 s1 l1 f1) (.mk k2 b2 n2 s2 l2 f2) = z at *
 show Calls _ _ _ _ (EvPost w (if k = 15 then (AK (decide (z = 0)), 0) else if k = 16 then (AK (decide (z ≠ 0)), 0) else if k1 ≠ k2 ∨ 5 ≤ k1 then (Am, 5) else _))
 by_cases q15 : k = 15
 · rw [if_pos q15]
   exact Rg k z _ _ _ _ _ _ _ _ _ _ _ _ _ _ _ _ _ _ _ _ w hc (by simpa using q15)
 rw [if_neg q15]
 by_cases q16 : k = 16
 · rw [if_pos q16, show decide (z ≠ 0) = (z != 0) by by_cases h : z = 0 <;> simp [h]]
   exact Rh k z _ _ _ _ _ _ _ _ _ _ _ _ _ _ _ _ _ _ _ _ w hc (by simpa using q15) (by simpa using q16)
 rw [if_neg q16]
 have p15 : (k == 15) = false := by simpa using q15
 have p16 : (k == 16) = false := by simpa using q16
 by_cases hne : k1 = k2
 · by_cases hge : 5 ≤ k1
   · rw [if_pos (Or.inr hge)]
     exact MF k z _ _ _ _ _ _ _ _ _ _ _ _ _ _ _ _ _ _ _ _ w hc p15 p16 (by simpa using hne) (by simpa using hge)
   · rw [if_neg (fun h => h.elim (fun h => h hne) hge)]
     have g1 : (k1 != k2) = false := by simpa using hne
     have g2 : decide (5 ≤ k1) = false := by simpa using hge
     by_cases q17 : k = 17
     · rw [if_pos q17]
       exact Ri k z _ _ _ _ _ _ _ _ _ _ _ _ _ _ _ _ _ _ _ _ w hc p15 p16 g1 g2 (by simpa using q17)
     rw [if_neg q17]
     by_cases q18 : k = 18
     · rw [if_pos q18]
       exact Rj k z _ _ _ _ _ _ _ _ _ _ _ _ _ _ _ _ _ _ _ _ w hc p15 p16 g1 g2 (by simpa using q17) (by simpa using q18)
     rw [if_neg q18]
     by_cases q19 : k = 19
     · rw [if_pos q19]
       exact Rk k z _ _ _ _ _ _ _ _ _ _ _ _ _ _ _ _ _ _ _ _ w hc p15 p16 g1 g2 (by simpa using q17) (by simpa using q18) (by simpa using q19)
     rw [if_neg q19]
     exact Rl k z _ _ _ _ _ _ _ _ _ _ _ _ _ _ _ _ _ _ _ _ w hc p15 p16 g1 g2 (by simpa using q17) (by simpa using q18) (by simpa using q19)
 · rw [if_pos (Or.inl hne)]
   exact ME k z _ _ _ _ _ _ _ _ _ _ _ _ _ _ _ _ _ _ _ _ w hc p15 p16 (by simpa using hne)
end Go.Proofs.YtbemgcjckchdjaaGreatDoor
