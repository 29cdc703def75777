import Derived.Test.YtbemgcjckchdjaaGreatDoorLEe
import Derived.Deep.RegionWith
/- The node operator. -/
namespace Go.Proofs.YtbemgcjckchdjaaGreatDoor
open Go.RowKit
set_option linter.unusedSimpArgs false
set_option linter.unusedVariables false
theorem AT {w : World} {b : Nat} {a0 a1 : Value} {T : TypeId} (h : w.heap[b]? = some (.cells #[a0, a1] T (0, 0))) : w.cell? ⟨b, 0, none⟩ = some a0 ∧ w.cell? ⟨b, 1, none⟩ = some a1 := by
 simp [World.cell?, h]
theorem Dz {w w' : World} {vs : List VT} {A : Option Addr} (h : vs.length = 0 ∨ ∃ b, A = some ⟨b, 0, none⟩ ∧ w.heap.size ≤ b ∧ b < w'.heap.size ∧ RL w' 0 w'.heap.size (Au vs) b 0) : ValRow w' (Au vs) A := by
 rcases h with h | ⟨b, e, h1, h2, h3⟩
 · exact Or.inl (by rw [CH]; exact h)
 · exact Or.inr ⟨b, 0, e, h2, h3⟩
theorem Cn (vs : List VT) (A : Option Addr) (c : Nat) (w : World) (hl : vs.length ≤ 1000) (hr : ValRow w (Au vs) A) :
  Calls Tryz.prog 220 #[.slice A vs.length c, .func (.func 221) #[] #[]] w fun e w' => e = .returned (.bool (vs.any fun v => v.kind == 0)) ∧ Below w.heap.size w w' := by
 have h := Dj _ _ LB (Au vs) A c w (by rw [CH]; unfold LIM; omega) hr
 rw [CH, Ku] at h
 exact h
theorem Jc {w : World} {x : VT} {r : List VT} {a : Option Addr} (h : ValRow w (Au (x :: r)) a) : ∃ b o, a = some ⟨b, o, none⟩ ∧ b < w.heap.size ∧ ∃ v0 v1 v2 v3 v4 v5, w.cell? ⟨b, o, none⟩ = some v0 ∧ w.cell? ⟨b, o + 1, none⟩ = some v1 ∧ w.cell? ⟨b, o + 2, none⟩ = some v2 ∧ w.cell? ⟨b, o + 3, none⟩ = some v3 ∧ w.cell? ⟨b, o + 4, none⟩ = some v4 ∧ w.cell? ⟨b, o + 5, none⟩ = some v5 ∧ RV w 0 w.heap.size x [v0, v1, v2, v3, v4, v5] := by
 rcases h with h | ⟨b, o, e, hlt, hr⟩
 · cases h
 · unfold Au RL at hr
   exact ⟨b, o, e, hlt, hr.1⟩
theorem Fn : ∀ (l : List Rz) (e : Int), AV l = Except.error e → e ≠ 0
 | [], e, h => by cases h
 | x :: l, e, h => by
   rw [CB] at h
   split at h
   · cases h; assumption
   · cases hl : AV l with
     | error e' => rw [hl] at h; cases h; exact Fn l _ hl
     | ok vs => rw [hl] at h; cases h
theorem PR {w : World} {x : VT} {c0 c1 c2 c3 c4 c5 : Value} {T : TypeId} (hx : RV w 0 w.heap.size x [c0, c1, c2, c3, c4, c5]) : ValRow (w.alloc (.cells #[.int .u8 2, .bool false, .int .i64 0, .string ⟨#[]⟩, .slice none 0 0, .slice none 0 0, c0, c1, c2, c3, c4, c5] T)) (Au [CQ 0, x]) (some ⟨w.heap.size, 0, none⟩) := by
 have h := Ab w (.cells #[.int .u8 2, .bool false, .int .i64 0, .string ⟨#[]⟩, .slice none 0 0, .slice none 0 0, c0, c1, c2, c3, c4, c5] T)
 have hc : ∀ j v, #[Value.int .u8 2, .bool false, .int .i64 0, .string ⟨#[]⟩, .slice none 0 0, .slice none 0 0, c0, c1, c2, c3, c4, c5][j]? = some v → (w.alloc (.cells #[.int .u8 2, .bool false, .int .i64 0, .string ⟨#[]⟩, .slice none 0 0, .slice none 0 0, c0, c1, c2, c3, c4, c5] T)).cell? ⟨w.heap.size, j, none⟩ = some v := fun j v e => by
  unfold World.cell?
  rw [h]
  exact e
 have hx2 := hx.grow (Ad (w := w) (.cells #[.int .u8 2, .bool false, .int .i64 0, .string ⟨#[]⟩, .slice none 0 0, .slice none 0 0, c0, c1, c2, c3, c4, c5] T))
 refine Or.inr ⟨w.heap.size, 0, rfl, by simp, ?_⟩
 unfold Au Au Au RL RL RL
 exact ⟨⟨_, _, _, _, _, _, hc 0 _ rfl, hc 1 _ rfl, hc 2 _ rfl, hc 3 _ rfl, hc 4 _ rfl, hc 5 _ rfl, Gu 0 (by unfold I64; omega) _⟩, ⟨_, _, _, _, _, _, hc 6 _ rfl, hc 7 _ rfl, hc 8 _ rfl, hc 9 _ rfl, hc 10 _ rfl, hc 11 _ rfl, hx2⟩, trivial⟩
theorem M8 (k : Int) (x y : VT) (vs : List VT) (hvs : vs = [x, y]) (a : Option Addr) (c : Nat) (w : World) (hk : k = 12 ∨ k = 13 ∨ k = 14) (hr : ValRow w (Au vs) a) (hc : vs.length ≤ c) :
  Calls Tryz.prog 222 #[.int .u8 k, .slice a vs.length c] w (EvPost w (BF k x y)) := by
 subst hvs
 exact FQ k x y a c w hk hr hc
set_option maxHeartbeats 4000000 in
set_option maxRecDepth 100000 in
theorem PN (k : Int) (a : Option Addr) (m c : Nat) (rs : Except Int (List VT)) (kr : Int) (br : Bool) (nr : Int) (sr : ByteArray) (ar1 : Option Addr) (lr : VL) (cr1 : Nat) (ar2 : Option Addr) (fr : FL) (cr2 : Nat) (w : World) (hL : Laid w)
  (ha : ∀ w', Below w.heap.size w w' → Calls Tryz.prog 209 #[.slice a m c, .agg #[.int .u8 kr, .bool br, .int .i64 nr, .string sr, .slice ar1 lr.len cr1, .slice ar2 fr.len cr2]] w' (BP w' rs)) (e0 : Int) (hrs : rs = .error e0) (he0 : (e0 != 0) = true) :
  Calls Tryz.prog 219 #[.agg #[.int .u8 k, .slice a m c], .agg #[.int .u8 kr, .bool br, .int .i64 nr, .string sr, .slice ar1 lr.len cr1, .slice ar2 fr.len cr2]] w (EvPost w (Am, e0)) := by
 have HA := Lib.hid ha
 have HL := Lib.hid hL
 have hD := Ax (w := w) (.cells #[.int .u8 k, .slice a m c] 140) (.cells #[.int .u8 kr, .bool br, .int .i64 nr, .string sr, .slice ar1 lr.len cr1, .slice ar2 fr.len cr2] 27) Ah
 have hX := Af (o := Ah) (Af (o := .cells #[.int .u8 kr, .bool br, .int .i64 nr, .string sr, .slice ar1 lr.len cr1, .slice ar2 fr.len cr2] 27) (Ab w (.cells #[.int .u8 k, .slice a m c] 140)))
 have hY := Af (o := Ah) (Ab (w.alloc (.cells #[.int .u8 k, .slice a m c] 140)) (.cells #[.int .u8 kr, .bool br, .int .i64 nr, .string sr, .slice ar1 lr.len cr1, .slice ar2 fr.len cr2] 27))
 have hZ := Ab ((w.alloc (.cells #[.int .u8 k, .slice a m c] 140)).alloc (.cells #[.int .u8 kr, .bool br, .int .i64 nr, .string sr, .slice ar1 lr.len cr1, .slice ar2 fr.len cr2] 27)) Ah
 have ez1 : (w.alloc (.cells #[.int .u8 k, .slice a m c] 140)).heap.size = w.heap.size + 1 := by simp
 have ez2 : ((w.alloc (.cells #[.int .u8 k, .slice a m c] 140)).alloc (.cells #[.int .u8 kr, .bool br, .int .i64 nr, .string sr, .slice ar1 lr.len cr1, .slice ar2 fr.len cr2] 27)).heap.size = w.heap.size + 1 + 1 := by simp
 have ez3 : (((w.alloc (.cells #[.int .u8 k, .slice a m c] 140)).alloc (.cells #[.int .u8 kr, .bool br, .int .i64 nr, .string sr, .slice ar1 lr.len cr1, .slice ar2 fr.len cr2] 27)).alloc Ah).heap.size = w.heap.size + 1 + 1 + 1 := by simp
 rw [ez1] at hY
 rw [ez2] at hZ
 clear ha hL
 go_enter Tryz.func219, Tryz.ntmps219
 go_upto_region 1 with (fail)
 generalize ((w.alloc (.cells #[.int .u8 k, .slice a m c] 140)).alloc (.cells #[.int .u8 kr, .bool br, .int .i64 nr, .string sr, .slice ar1 lr.len cr1, .slice ar2 fr.len cr2] 27)).alloc Ah = W at *
 have HD := Lib.hid hD
 have HX := Lib.hid hX
 have HZ := Lib.hid hZ
 have HW := Lib.hid ez3
 obtain ⟨x0, x1⟩ := AT hX
 obtain ⟨y0, y1, y2, y3, y4, y5, y6⟩ := Ae hY
 clear hD hX hY hZ ez1 ez2 ez3
 subst hrs
 go_upto_region 2 with (go_at_call 209; refine (HA.out _ HD.out).mono ?_; rintro e w7 ⟨hb7, rfl⟩; have HZ7 := Lib.hid (blk hb7 HZ.out); have HB7 := Lib.hid (Aa HD.out HD.out.size hb7); clear hb7)
 clear x0 x1 y0 y1 y2 y3 y4 y5 y6
 obtain ⟨z0, z1, z2, z3, z4, z5, z6⟩ := Ae HZ7.out
 go_wp2_with fail
 refine bodyPost_ret (v := .tuple #[Bs, .int .i64 e0]) (by simp [results, Tryz.results219, go_sem, Ai, z0, z1, z2, z3, z4, z5]) rfl ?_
 exact Bx (Ag (by omega) [_, _, _, _, _, _] 0 _ HB7.out)
set_option maxHeartbeats 4000000 in
set_option maxRecDepth 100000 in
theorem LJ (k : Int) (a : Option Addr) (m c : Nat) (rs : Except Int (List VT)) (kr : Int) (br : Bool) (nr : Int) (sr : ByteArray) (ar1 : Option Addr) (lr : VL) (cr1 : Nat) (ar2 : Option Addr) (fr : FL) (cr2 : Nat) (w : World) (hL : Laid w)
  (ha : ∀ w', Below w.heap.size w w' → Calls Tryz.prog 209 #[.slice a m c, .agg #[.int .u8 kr, .bool br, .int .i64 nr, .string sr, .slice ar1 lr.len cr1, .slice ar2 fr.len cr2]] w' (BP w' rs)) (vs : List VT) (hrs : rs = .ok vs) (hl : vs.length ≤ 1000) (nz : Bool) (hnz : (vs.any fun v => v.kind == 0) = nz) (q11 : (k == 11) = true) :
  Calls Tryz.prog 219 #[.agg #[.int .u8 k, .slice a m c], .agg #[.int .u8 kr, .bool br, .int .i64 nr, .string sr, .slice ar1 lr.len cr1, .slice ar2 fr.len cr2]] w (EvPost w (AK nz, 0)) := by
 have HA := Lib.hid ha
 have HL := Lib.hid hL
 have hD := Ax (w := w) (.cells #[.int .u8 k, .slice a m c] 140) (.cells #[.int .u8 kr, .bool br, .int .i64 nr, .string sr, .slice ar1 lr.len cr1, .slice ar2 fr.len cr2] 27) Ah
 have hX := Af (o := Ah) (Af (o := .cells #[.int .u8 kr, .bool br, .int .i64 nr, .string sr, .slice ar1 lr.len cr1, .slice ar2 fr.len cr2] 27) (Ab w (.cells #[.int .u8 k, .slice a m c] 140)))
 have hY := Af (o := Ah) (Ab (w.alloc (.cells #[.int .u8 k, .slice a m c] 140)) (.cells #[.int .u8 kr, .bool br, .int .i64 nr, .string sr, .slice ar1 lr.len cr1, .slice ar2 fr.len cr2] 27))
 have hZ := Ab ((w.alloc (.cells #[.int .u8 k, .slice a m c] 140)).alloc (.cells #[.int .u8 kr, .bool br, .int .i64 nr, .string sr, .slice ar1 lr.len cr1, .slice ar2 fr.len cr2] 27)) Ah
 have ez1 : (w.alloc (.cells #[.int .u8 k, .slice a m c] 140)).heap.size = w.heap.size + 1 := by simp
 have ez2 : ((w.alloc (.cells #[.int .u8 k, .slice a m c] 140)).alloc (.cells #[.int .u8 kr, .bool br, .int .i64 nr, .string sr, .slice ar1 lr.len cr1, .slice ar2 fr.len cr2] 27)).heap.size = w.heap.size + 1 + 1 := by simp
 have ez3 : (((w.alloc (.cells #[.int .u8 k, .slice a m c] 140)).alloc (.cells #[.int .u8 kr, .bool br, .int .i64 nr, .string sr, .slice ar1 lr.len cr1, .slice ar2 fr.len cr2] 27)).alloc Ah).heap.size = w.heap.size + 1 + 1 + 1 := by simp
 rw [ez1] at hY
 rw [ez2] at hZ
 clear ha hL
 go_enter Tryz.func219, Tryz.ntmps219
 go_upto_region 1 with (fail)
 generalize ((w.alloc (.cells #[.int .u8 k, .slice a m c] 140)).alloc (.cells #[.int .u8 kr, .bool br, .int .i64 nr, .string sr, .slice ar1 lr.len cr1, .slice ar2 fr.len cr2] 27)).alloc Ah = W at *
 have HD := Lib.hid hD
 have HX := Lib.hid hX
 have HZ := Lib.hid hZ
 have HW := Lib.hid ez3
 obtain ⟨x0, x1⟩ := AT hX
 obtain ⟨y0, y1, y2, y3, y4, y5, y6⟩ := Ae hY
 clear hD hX hY hZ ez1 ez2 ez3
 subst hrs
 have HCN := Lib.hid (fun (A : Option Addr) (c : Nat) (w' : World) (hr : ValRow w' (Au vs) A) => Cn vs A c w' hl hr)
 rw [hnz] at HCN
 clear hnz
 go_upto_region 5 with (first | (go_at_call 209; refine (HA.out _ HD.out).mono ?_; rintro e w7 ⟨hb7, A, c7, rfl, hc7, hrow7⟩; have HX7 := Lib.hid (blk hb7 HX.out); have HZ7 := Lib.hid (blk hb7 HZ.out); have HB7 := Lib.hid (Aa HD.out HD.out.size hb7); have HR7 := Lib.hid (Dz hrow7); clear hb7 hrow7) | (go_at_call 220; refine (HCN.out _ _ _ HR7.out).mono ?_; rintro e w8 ⟨rfl, hb8⟩; have HX8 := Lib.hid (blk hb8 HX7.out); have HZ8 := Lib.hid (blk hb8 HZ7.out); have HB8 := Lib.hid (Aa HB7.out HB7.out.size hb8); have HR8 := Lib.hid (HR7.out.keep hb8); clear hb8))
 clear x0 x1 y0 y1 y2 y3 y4 y5 y6
 obtain ⟨x0, x1⟩ := AT HX8.out
 obtain ⟨z0, z1, z2, z3, z4, z5, z6⟩ := Ae HZ8.out
 go_wp2_with (go_at_call 96; refine (B6 _ _).mono ?_; rintro e w9 ⟨rfl, hb9⟩; clear z0 z1 z2 z3 z4 z5 z6; have HB9 := Lib.hid (Aa HB8.out HB8.out.size hb9); obtain ⟨z0, z1, z2, z3, z4, z5, z6⟩ := Ae (blk hb9 HZ8.out); clear hb9)
 refine bodyPost_ret (v := .tuple #[.agg #[.int .u8 1, .bool nz, .int .i64 0, .string ⟨#[]⟩, .slice none 0 0, .slice none 0 0], .int .i64 0]) (by simp [results, Tryz.results219, go_sem, Ai, z0, z1, z2, z3, z4, z5]) rfl ?_
 exact CF (Ag (by omega) [_, _, _, _, _, _] 0 _ HB9.out)
set_option maxHeartbeats 4000000 in
set_option maxRecDepth 100000 in
theorem Oh (k : Int) (a : Option Addr) (m c : Nat) (rs : Except Int (List VT)) (kr : Int) (br : Bool) (nr : Int) (sr : ByteArray) (ar1 : Option Addr) (lr : VL) (cr1 : Nat) (ar2 : Option Addr) (fr : FL) (cr2 : Nat) (w : World) (hL : Laid w)
  (ha : ∀ w', Below w.heap.size w w' → Calls Tryz.prog 209 #[.slice a m c, .agg #[.int .u8 kr, .bool br, .int .i64 nr, .string sr, .slice ar1 lr.len cr1, .slice ar2 fr.len cr2]] w' (BP w' rs)) (vs : List VT) (hrs : rs = .ok vs) (hl : vs.length ≤ 1000) (hnz : (vs.any fun v => v.kind == 0) = true) (q11 : (k == 11) = false) :
  Calls Tryz.prog 219 #[.agg #[.int .u8 k, .slice a m c], .agg #[.int .u8 kr, .bool br, .int .i64 nr, .string sr, .slice ar1 lr.len cr1, .slice ar2 fr.len cr2]] w (EvPost w (Am, 0)) := by
 have HA := Lib.hid ha
 have HL := Lib.hid hL
 have hD := Ax (w := w) (.cells #[.int .u8 k, .slice a m c] 140) (.cells #[.int .u8 kr, .bool br, .int .i64 nr, .string sr, .slice ar1 lr.len cr1, .slice ar2 fr.len cr2] 27) Ah
 have hX := Af (o := Ah) (Af (o := .cells #[.int .u8 kr, .bool br, .int .i64 nr, .string sr, .slice ar1 lr.len cr1, .slice ar2 fr.len cr2] 27) (Ab w (.cells #[.int .u8 k, .slice a m c] 140)))
 have hY := Af (o := Ah) (Ab (w.alloc (.cells #[.int .u8 k, .slice a m c] 140)) (.cells #[.int .u8 kr, .bool br, .int .i64 nr, .string sr, .slice ar1 lr.len cr1, .slice ar2 fr.len cr2] 27))
 have hZ := Ab ((w.alloc (.cells #[.int .u8 k, .slice a m c] 140)).alloc (.cells #[.int .u8 kr, .bool br, .int .i64 nr, .string sr, .slice ar1 lr.len cr1, .slice ar2 fr.len cr2] 27)) Ah
 have ez1 : (w.alloc (.cells #[.int .u8 k, .slice a m c] 140)).heap.size = w.heap.size + 1 := by simp
 have ez2 : ((w.alloc (.cells #[.int .u8 k, .slice a m c] 140)).alloc (.cells #[.int .u8 kr, .bool br, .int .i64 nr, .string sr, .slice ar1 lr.len cr1, .slice ar2 fr.len cr2] 27)).heap.size = w.heap.size + 1 + 1 := by simp
 have ez3 : (((w.alloc (.cells #[.int .u8 k, .slice a m c] 140)).alloc (.cells #[.int .u8 kr, .bool br, .int .i64 nr, .string sr, .slice ar1 lr.len cr1, .slice ar2 fr.len cr2] 27)).alloc Ah).heap.size = w.heap.size + 1 + 1 + 1 := by simp
 rw [ez1] at hY
 rw [ez2] at hZ
 clear ha hL
 go_enter Tryz.func219, Tryz.ntmps219
 go_upto_region 1 with (fail)
 generalize ((w.alloc (.cells #[.int .u8 k, .slice a m c] 140)).alloc (.cells #[.int .u8 kr, .bool br, .int .i64 nr, .string sr, .slice ar1 lr.len cr1, .slice ar2 fr.len cr2] 27)).alloc Ah = W at *
 have HD := Lib.hid hD
 have HX := Lib.hid hX
 have HZ := Lib.hid hZ
 have HW := Lib.hid ez3
 obtain ⟨x0, x1⟩ := AT hX
 obtain ⟨y0, y1, y2, y3, y4, y5, y6⟩ := Ae hY
 clear hD hX hY hZ ez1 ez2 ez3
 subst hrs
 have HCN := Lib.hid (fun (A : Option Addr) (c : Nat) (w' : World) (hr : ValRow w' (Au vs) A) => Cn vs A c w' hl hr)
 rw [hnz] at HCN
 clear hnz
 go_upto_region 5 with (first | (go_at_call 209; refine (HA.out _ HD.out).mono ?_; rintro e w7 ⟨hb7, A, c7, rfl, hc7, hrow7⟩; have HX7 := Lib.hid (blk hb7 HX.out); have HZ7 := Lib.hid (blk hb7 HZ.out); have HB7 := Lib.hid (Aa HD.out HD.out.size hb7); have HR7 := Lib.hid (Dz hrow7); clear hb7 hrow7) | (go_at_call 220; refine (HCN.out _ _ _ HR7.out).mono ?_; rintro e w8 ⟨rfl, hb8⟩; have HX8 := Lib.hid (blk hb8 HX7.out); have HZ8 := Lib.hid (blk hb8 HZ7.out); have HB8 := Lib.hid (Aa HB7.out HB7.out.size hb8); have HR8 := Lib.hid (HR7.out.keep hb8); clear hb8))
 clear x0 x1 y0 y1 y2 y3 y4 y5 y6
 obtain ⟨x0, x1⟩ := AT HX8.out
 obtain ⟨z0, z1, z2, z3, z4, z5, z6⟩ := Ae HZ8.out
 go_wp2_with fail
 refine bodyPost_ret (v := .tuple #[Bs, .int .i64 0]) (by simp [results, Tryz.results219, go_sem, Ai, z0, z1, z2, z3, z4, z5]) rfl ?_
 exact Bx (Ag (by omega) [_, _, _, _, _, _] 0 _ HB8.out)
set_option maxHeartbeats 4000000 in
set_option maxRecDepth 100000 in
theorem JX (k : Int) (a : Option Addr) (m c : Nat) (rs : Except Int (List VT)) (kr : Int) (br : Bool) (nr : Int) (sr : ByteArray) (ar1 : Option Addr) (lr : VL) (cr1 : Nat) (ar2 : Option Addr) (fr : FL) (cr2 : Nat) (w : World) (hL : Laid w)
  (ha : ∀ w', Below w.heap.size w w' → Calls Tryz.prog 209 #[.slice a m c, .agg #[.int .u8 kr, .bool br, .int .i64 nr, .string sr, .slice ar1 lr.len cr1, .slice ar2 fr.len cr2]] w' (BP w' rs)) (x : VT) (rr : List VT) (vs : List VT) (hvs : vs = x :: rr) (hrs : rs = .ok vs) (hl : vs.length ≤ 1000) (hnz : (vs.any fun v => v.kind == 0) = false) (q11 : (k == 11) = false) (q9 : (k == 9) = false) (q10 : (k == 10) = true) (hx1 : (x.kind != 1) = true) :
  Calls Tryz.prog 219 #[.agg #[.int .u8 k, .slice a m c], .agg #[.int .u8 kr, .bool br, .int .i64 nr, .string sr, .slice ar1 lr.len cr1, .slice ar2 fr.len cr2]] w (EvPost w (Am, 5)) := by
 have HA := Lib.hid ha
 have HL := Lib.hid hL
 have hD := Ax (w := w) (.cells #[.int .u8 k, .slice a m c] 140) (.cells #[.int .u8 kr, .bool br, .int .i64 nr, .string sr, .slice ar1 lr.len cr1, .slice ar2 fr.len cr2] 27) Ah
 have hX := Af (o := Ah) (Af (o := .cells #[.int .u8 kr, .bool br, .int .i64 nr, .string sr, .slice ar1 lr.len cr1, .slice ar2 fr.len cr2] 27) (Ab w (.cells #[.int .u8 k, .slice a m c] 140)))
 have hY := Af (o := Ah) (Ab (w.alloc (.cells #[.int .u8 k, .slice a m c] 140)) (.cells #[.int .u8 kr, .bool br, .int .i64 nr, .string sr, .slice ar1 lr.len cr1, .slice ar2 fr.len cr2] 27))
 have hZ := Ab ((w.alloc (.cells #[.int .u8 k, .slice a m c] 140)).alloc (.cells #[.int .u8 kr, .bool br, .int .i64 nr, .string sr, .slice ar1 lr.len cr1, .slice ar2 fr.len cr2] 27)) Ah
 have ez1 : (w.alloc (.cells #[.int .u8 k, .slice a m c] 140)).heap.size = w.heap.size + 1 := by simp
 have ez2 : ((w.alloc (.cells #[.int .u8 k, .slice a m c] 140)).alloc (.cells #[.int .u8 kr, .bool br, .int .i64 nr, .string sr, .slice ar1 lr.len cr1, .slice ar2 fr.len cr2] 27)).heap.size = w.heap.size + 1 + 1 := by simp
 have ez3 : (((w.alloc (.cells #[.int .u8 k, .slice a m c] 140)).alloc (.cells #[.int .u8 kr, .bool br, .int .i64 nr, .string sr, .slice ar1 lr.len cr1, .slice ar2 fr.len cr2] 27)).alloc Ah).heap.size = w.heap.size + 1 + 1 + 1 := by simp
 rw [ez1] at hY
 rw [ez2] at hZ
 clear ha hL
 go_enter Tryz.func219, Tryz.ntmps219
 go_upto_region 1 with (fail)
 generalize ((w.alloc (.cells #[.int .u8 k, .slice a m c] 140)).alloc (.cells #[.int .u8 kr, .bool br, .int .i64 nr, .string sr, .slice ar1 lr.len cr1, .slice ar2 fr.len cr2] 27)).alloc Ah = W at *
 have HD := Lib.hid hD
 have HX := Lib.hid hX
 have HZ := Lib.hid hZ
 have HW := Lib.hid ez3
 obtain ⟨x0, x1⟩ := AT hX
 obtain ⟨y0, y1, y2, y3, y4, y5, y6⟩ := Ae hY
 clear hD hX hY hZ ez1 ez2 ez3
 have HVS := Lib.hid hvs
 clear hvs
 subst hrs
 have HCN := Lib.hid (fun (A : Option Addr) (c : Nat) (w' : World) (hr : ValRow w' (Au vs) A) => Cn vs A c w' hl hr)
 rw [hnz] at HCN
 clear hnz
 go_upto_region 5 with (first | (go_at_call 209; refine (HA.out _ HD.out).mono ?_; rintro e w7 ⟨hb7, A, c7, rfl, hc7, hrow7⟩; have HX7 := Lib.hid (blk hb7 HX.out); have HZ7 := Lib.hid (blk hb7 HZ.out); have HB7 := Lib.hid (Aa HD.out HD.out.size hb7); have HR7 := Lib.hid (Dz hrow7); clear hb7 hrow7) | (go_at_call 220; refine (HCN.out _ _ _ HR7.out).mono ?_; rintro e w8 ⟨rfl, hb8⟩; have HX8 := Lib.hid (blk hb8 HX7.out); have HZ8 := Lib.hid (blk hb8 HZ7.out); have HB8 := Lib.hid (Aa HB7.out HB7.out.size hb8); have HR8 := Lib.hid (HR7.out.keep hb8); clear hb8))
 clear x0 x1 y0 y1 y2 y3 y4 y5 y6
 obtain ⟨x0, x1⟩ := AT HX8.out
 obtain ⟨z0, z1, z2, z3, z4, z5, z6⟩ := Ae HZ8.out
 have hr8 := HR8.out
 rw [HVS.out] at hr8
 have hl0 : 0 < vs.length := by rw [HVS.out]; simp
 obtain ⟨b, o, rfl, hbs, v0, v1, v2, v3, v4, v5, d0, d1, d2, d3, d4, d5, hx⟩ := Jc hr8
 obtain ⟨kx, bx, nx, sx, lx, fx, ax1, cx1, ax2, cx2, rfl, ex, _⟩ := RV.mk_parts hx
 simp only [List.cons.injEq, and_true] at ex
 obtain ⟨rfl, rfl, rfl, rfl, rfl, rfl⟩ := ex
 have HVX := Lib.hid hx
 clear hx hr8
 change (kx != 1) = true at hx1
 go_wp2_with fail
 refine bodyPost_ret (v := .tuple #[Bs, .int .i64 5]) (by simp [results, Tryz.results219, go_sem, Ai, z0, z1, z2, z3, z4, z5]) rfl ?_
 exact Bx (Ag (by omega) [_, _, _, _, _, _] 0 _ HB8.out)
set_option maxHeartbeats 4000000 in
set_option maxRecDepth 100000 in
theorem PP (k : Int) (a : Option Addr) (m c : Nat) (rs : Except Int (List VT)) (kr : Int) (br : Bool) (nr : Int) (sr : ByteArray) (ar1 : Option Addr) (lr : VL) (cr1 : Nat) (ar2 : Option Addr) (fr : FL) (cr2 : Nat) (w : World) (hL : Laid w)
  (ha : ∀ w', Below w.heap.size w w' → Calls Tryz.prog 209 #[.slice a m c, .agg #[.int .u8 kr, .bool br, .int .i64 nr, .string sr, .slice ar1 lr.len cr1, .slice ar2 fr.len cr2]] w' (BP w' rs)) (x : VT) (rr : List VT) (vs : List VT) (hvs : vs = x :: rr) (hrs : rs = .ok vs) (hl : vs.length ≤ 1000) (hnz : (vs.any fun v => v.kind == 0) = false) (q11 : (k == 11) = false) (q9 : (k == 9) = false) (q10 : (k == 10) = true) (hx1 : (x.kind != 1) = false) :
  Calls Tryz.prog 219 #[.agg #[.int .u8 k, .slice a m c], .agg #[.int .u8 kr, .bool br, .int .i64 nr, .string sr, .slice ar1 lr.len cr1, .slice ar2 fr.len cr2]] w (EvPost w (AK (!x.bool), 0)) := by
 have HA := Lib.hid ha
 have HL := Lib.hid hL
 have hD := Ax (w := w) (.cells #[.int .u8 k, .slice a m c] 140) (.cells #[.int .u8 kr, .bool br, .int .i64 nr, .string sr, .slice ar1 lr.len cr1, .slice ar2 fr.len cr2] 27) Ah
 have hX := Af (o := Ah) (Af (o := .cells #[.int .u8 kr, .bool br, .int .i64 nr, .string sr, .slice ar1 lr.len cr1, .slice ar2 fr.len cr2] 27) (Ab w (.cells #[.int .u8 k, .slice a m c] 140)))
 have hY := Af (o := Ah) (Ab (w.alloc (.cells #[.int .u8 k, .slice a m c] 140)) (.cells #[.int .u8 kr, .bool br, .int .i64 nr, .string sr, .slice ar1 lr.len cr1, .slice ar2 fr.len cr2] 27))
 have hZ := Ab ((w.alloc (.cells #[.int .u8 k, .slice a m c] 140)).alloc (.cells #[.int .u8 kr, .bool br, .int .i64 nr, .string sr, .slice ar1 lr.len cr1, .slice ar2 fr.len cr2] 27)) Ah
 have ez1 : (w.alloc (.cells #[.int .u8 k, .slice a m c] 140)).heap.size = w.heap.size + 1 := by simp
 have ez2 : ((w.alloc (.cells #[.int .u8 k, .slice a m c] 140)).alloc (.cells #[.int .u8 kr, .bool br, .int .i64 nr, .string sr, .slice ar1 lr.len cr1, .slice ar2 fr.len cr2] 27)).heap.size = w.heap.size + 1 + 1 := by simp
 have ez3 : (((w.alloc (.cells #[.int .u8 k, .slice a m c] 140)).alloc (.cells #[.int .u8 kr, .bool br, .int .i64 nr, .string sr, .slice ar1 lr.len cr1, .slice ar2 fr.len cr2] 27)).alloc Ah).heap.size = w.heap.size + 1 + 1 + 1 := by simp
 rw [ez1] at hY
 rw [ez2] at hZ
 clear ha hL
 go_enter Tryz.func219, Tryz.ntmps219
 go_upto_region 1 with (fail)
 generalize ((w.alloc (.cells #[.int .u8 k, .slice a m c] 140)).alloc (.cells #[.int .u8 kr, .bool br, .int .i64 nr, .string sr, .slice ar1 lr.len cr1, .slice ar2 fr.len cr2] 27)).alloc Ah = W at *
 have HD := Lib.hid hD
 have HX := Lib.hid hX
 have HZ := Lib.hid hZ
 have HW := Lib.hid ez3
 obtain ⟨x0, x1⟩ := AT hX
 obtain ⟨y0, y1, y2, y3, y4, y5, y6⟩ := Ae hY
 clear hD hX hY hZ ez1 ez2 ez3
 have HVS := Lib.hid hvs
 clear hvs
 subst hrs
 have HCN := Lib.hid (fun (A : Option Addr) (c : Nat) (w' : World) (hr : ValRow w' (Au vs) A) => Cn vs A c w' hl hr)
 rw [hnz] at HCN
 clear hnz
 go_upto_region 5 with (first | (go_at_call 209; refine (HA.out _ HD.out).mono ?_; rintro e w7 ⟨hb7, A, c7, rfl, hc7, hrow7⟩; have HX7 := Lib.hid (blk hb7 HX.out); have HZ7 := Lib.hid (blk hb7 HZ.out); have HB7 := Lib.hid (Aa HD.out HD.out.size hb7); have HR7 := Lib.hid (Dz hrow7); clear hb7 hrow7) | (go_at_call 220; refine (HCN.out _ _ _ HR7.out).mono ?_; rintro e w8 ⟨rfl, hb8⟩; have HX8 := Lib.hid (blk hb8 HX7.out); have HZ8 := Lib.hid (blk hb8 HZ7.out); have HB8 := Lib.hid (Aa HB7.out HB7.out.size hb8); have HR8 := Lib.hid (HR7.out.keep hb8); clear hb8))
 clear x0 x1 y0 y1 y2 y3 y4 y5 y6
 obtain ⟨x0, x1⟩ := AT HX8.out
 obtain ⟨z0, z1, z2, z3, z4, z5, z6⟩ := Ae HZ8.out
 have hr8 := HR8.out
 rw [HVS.out] at hr8
 have hl0 : 0 < vs.length := by rw [HVS.out]; simp
 obtain ⟨b, o, rfl, hbs, v0, v1, v2, v3, v4, v5, d0, d1, d2, d3, d4, d5, hx⟩ := Jc hr8
 obtain ⟨kx, bx, nx, sx, lx, fx, ax1, cx1, ax2, cx2, rfl, ex, _⟩ := RV.mk_parts hx
 simp only [List.cons.injEq, and_true] at ex
 obtain ⟨rfl, rfl, rfl, rfl, rfl, rfl⟩ := ex
 have HVX := Lib.hid hx
 clear hx hr8
 change (kx != 1) = false at hx1
 go_wp2_with (go_at_call 96; refine (B6 _ _).mono ?_; rintro e w9 ⟨rfl, hb9⟩; clear z0 z1 z2 z3 z4 z5 z6; have HB9 := Lib.hid (Aa HB8.out HB8.out.size hb9); obtain ⟨z0, z1, z2, z3, z4, z5, z6⟩ := Ae (blk hb9 HZ8.out); clear hb9)
 refine bodyPost_ret (v := .tuple #[.agg #[.int .u8 1, .bool (!bx), .int .i64 0, .string ⟨#[]⟩, .slice none 0 0, .slice none 0 0], .int .i64 0]) (by simp [results, Tryz.results219, go_sem, Ai, z0, z1, z2, z3, z4, z5]) rfl ?_
 exact CF (Ag (by omega) [_, _, _, _, _, _] 0 _ HB9.out)
set_option maxHeartbeats 4000000 in
set_option maxRecDepth 100000 in
theorem PO (k : Int) (a : Option Addr) (m c : Nat) (rs : Except Int (List VT)) (kr : Int) (br : Bool) (nr : Int) (sr : ByteArray) (ar1 : Option Addr) (lr : VL) (cr1 : Nat) (ar2 : Option Addr) (fr : FL) (cr2 : Nat) (w : World) (hL : Laid w)
  (ha : ∀ w', Below w.heap.size w w' → Calls Tryz.prog 209 #[.slice a m c, .agg #[.int .u8 kr, .bool br, .int .i64 nr, .string sr, .slice ar1 lr.len cr1, .slice ar2 fr.len cr2]] w' (BP w' rs)) (x : VT) (rr : List VT) (vs : List VT) (hvs : vs = x :: rr) (hrs : rs = .ok vs) (hl : vs.length ≤ 1000) (hnz : (vs.any fun v => v.kind == 0) = false) (q11 : (k == 11) = false) (q9 : (k == 9) = true) :
  Calls Tryz.prog 219 #[.agg #[.int .u8 k, .slice a m c], .agg #[.int .u8 kr, .bool br, .int .i64 nr, .string sr, .slice ar1 lr.len cr1, .slice ar2 fr.len cr2]] w (EvPost w (BF 13 (CQ 0) x)) := by
 have HA := Lib.hid ha
 have HL := Lib.hid hL
 have hD := Ax (w := w) (.cells #[.int .u8 k, .slice a m c] 140) (.cells #[.int .u8 kr, .bool br, .int .i64 nr, .string sr, .slice ar1 lr.len cr1, .slice ar2 fr.len cr2] 27) Ah
 have hX := Af (o := Ah) (Af (o := .cells #[.int .u8 kr, .bool br, .int .i64 nr, .string sr, .slice ar1 lr.len cr1, .slice ar2 fr.len cr2] 27) (Ab w (.cells #[.int .u8 k, .slice a m c] 140)))
 have hY := Af (o := Ah) (Ab (w.alloc (.cells #[.int .u8 k, .slice a m c] 140)) (.cells #[.int .u8 kr, .bool br, .int .i64 nr, .string sr, .slice ar1 lr.len cr1, .slice ar2 fr.len cr2] 27))
 have hZ := Ab ((w.alloc (.cells #[.int .u8 k, .slice a m c] 140)).alloc (.cells #[.int .u8 kr, .bool br, .int .i64 nr, .string sr, .slice ar1 lr.len cr1, .slice ar2 fr.len cr2] 27)) Ah
 have ez1 : (w.alloc (.cells #[.int .u8 k, .slice a m c] 140)).heap.size = w.heap.size + 1 := by simp
 have ez2 : ((w.alloc (.cells #[.int .u8 k, .slice a m c] 140)).alloc (.cells #[.int .u8 kr, .bool br, .int .i64 nr, .string sr, .slice ar1 lr.len cr1, .slice ar2 fr.len cr2] 27)).heap.size = w.heap.size + 1 + 1 := by simp
 have ez3 : (((w.alloc (.cells #[.int .u8 k, .slice a m c] 140)).alloc (.cells #[.int .u8 kr, .bool br, .int .i64 nr, .string sr, .slice ar1 lr.len cr1, .slice ar2 fr.len cr2] 27)).alloc Ah).heap.size = w.heap.size + 1 + 1 + 1 := by simp
 rw [ez1] at hY
 rw [ez2] at hZ
 clear ha hL
 go_enter Tryz.func219, Tryz.ntmps219
 go_upto_region 1 with (fail)
 generalize ((w.alloc (.cells #[.int .u8 k, .slice a m c] 140)).alloc (.cells #[.int .u8 kr, .bool br, .int .i64 nr, .string sr, .slice ar1 lr.len cr1, .slice ar2 fr.len cr2] 27)).alloc Ah = W at *
 have HD := Lib.hid hD
 have HX := Lib.hid hX
 have HZ := Lib.hid hZ
 have HW := Lib.hid ez3
 obtain ⟨x0, x1⟩ := AT hX
 obtain ⟨y0, y1, y2, y3, y4, y5, y6⟩ := Ae hY
 clear hD hX hY hZ ez1 ez2 ez3
 obtain ⟨⟨⟨k', b', n', s', l', f'⟩, wy'⟩, hrz⟩ : ∃ r : Rz, BF 13 (CQ 0) x = r := ⟨_, rfl⟩
 have HRZ := Lib.hid hrz
 clear hrz
 have HVS := Lib.hid hvs
 clear hvs
 subst hrs
 have HCN := Lib.hid (fun (A : Option Addr) (c : Nat) (w' : World) (hr : ValRow w' (Au vs) A) => Cn vs A c w' hl hr)
 rw [hnz] at HCN
 clear hnz
 go_upto_region 5 with (first | (go_at_call 209; refine (HA.out _ HD.out).mono ?_; rintro e w7 ⟨hb7, A, c7, rfl, hc7, hrow7⟩; have HX7 := Lib.hid (blk hb7 HX.out); have HZ7 := Lib.hid (blk hb7 HZ.out); have HB7 := Lib.hid (Aa HD.out HD.out.size hb7); have HR7 := Lib.hid (Dz hrow7); clear hb7 hrow7) | (go_at_call 220; refine (HCN.out _ _ _ HR7.out).mono ?_; rintro e w8 ⟨rfl, hb8⟩; have HX8 := Lib.hid (blk hb8 HX7.out); have HZ8 := Lib.hid (blk hb8 HZ7.out); have HB8 := Lib.hid (Aa HB7.out HB7.out.size hb8); have HR8 := Lib.hid (HR7.out.keep hb8); clear hb8))
 clear x0 x1 y0 y1 y2 y3 y4 y5 y6
 obtain ⟨x0, x1⟩ := AT HX8.out
 obtain ⟨z0, z1, z2, z3, z4, z5, z6⟩ := Ae HZ8.out
 have hr8 := HR8.out
 rw [HVS.out] at hr8
 have hl0 : 0 < vs.length := by rw [HVS.out]; simp
 obtain ⟨b, o, rfl, hbs, v0, v1, v2, v3, v4, v5, d0, d1, d2, d3, d4, d5, hx⟩ := Jc hr8
 obtain ⟨kx, bx, nx, sx, lx, fx, ax1, cx1, ax2, cx2, rfl, ex, _⟩ := RV.mk_parts hx
 simp only [List.cons.injEq, and_true] at ex
 obtain ⟨rfl, rfl, rfl, rfl, rfl, rfl⟩ := ex
 have HVX := Lib.hid hx
 clear hx hr8
 have HCT := Lib.hid (FQ 13 (CQ 0) _ _ 2 _ (by omega) (PR (T := 27) HVX.out) (by decide))
 rw [HRZ.out] at HCT
 have hs8 := HB8.out.size
 have lz8 : w.heap.size + 1 + 1 < w8.heap.size := lt_of_block HZ8.out
 have hn9 := Ad (w := w8) (.cells #[.int .u8 2, .bool false, .int .i64 0, .string ⟨#[]⟩, .slice none 0 0, .slice none 0 0, .int .u8 kx, .bool bx, .int .i64 nx, .string sx, .slice ax1 lx.len cx1, .slice ax2 fx.len cx2] 27)
 have HN9 := Lib.hid hn9
 clear hn9
 go_wp2_with (go_at_call 222; refine (HCT.out).mono ?_; intro e w9 hev; obtain ⟨hb9, d1, e1, d2, e2, rfl, hv9⟩ := hev.parts; clear z0 z1 z2 z3 z4 z5 z6; have HB9 := Lib.hid (Aa (Aa HB8.out HB8.out.size HN9.out) (Aa HB8.out HB8.out.size HN9.out).size hb9); obtain ⟨z0, z1, z2, z3, z4, z5, z6⟩ := Ae (blk hb9 (blk HN9.out HZ8.out)); have HV9 := Lib.hid hv9; clear hev hb9 hv9)
 refine bodyPost_ret (v := .tuple #[.agg #[.int .u8 k', .bool b', .int .i64 n', .string s', .slice d1 l'.len e1, .slice d2 f'.len e2], .int .i64 wy']) (by simp [results, Tryz.results219, go_sem, Ai, z0, z1, z2, z3, z4, z5]) rfl ?_
 rw [HRZ.out]; exact ⟨Ag (by omega) [_, _, _, _, _, _] 0 _ HB9.out, _, _, _, _, _, _, rfl, RV.above (us := [_, _, _, _, _, _]) HV9.out (by first | omega | (simp; omega)) (by first | omega | (simp; omega)) (Below.refl _ _)⟩
set_option maxHeartbeats 4000000 in
set_option maxRecDepth 100000 in
theorem Lb (k : Int) (a : Option Addr) (m c : Nat) (rs : Except Int (List VT)) (kr : Int) (br : Bool) (nr : Int) (sr : ByteArray) (ar1 : Option Addr) (lr : VL) (cr1 : Nat) (ar2 : Option Addr) (fr : FL) (cr2 : Nat) (w : World) (hL : Laid w)
  (ha : ∀ w', Below w.heap.size w w' → Calls Tryz.prog 209 #[.slice a m c, .agg #[.int .u8 kr, .bool br, .int .i64 nr, .string sr, .slice ar1 lr.len cr1, .slice ar2 fr.len cr2]] w' (BP w' rs)) (x y : VT) (vs : List VT) (hvs : vs = [x, y]) (hrs : rs = .ok vs) (hl : vs.length ≤ 1000) (hnz : (vs.any fun v => v.kind == 0) = false) (q11 : (k == 11) = false) (q9 : (k == 9) = false) (q10 : (k == 10) = false) (hk : k = 12 ∨ k = 13 ∨ k = 14) :
  Calls Tryz.prog 219 #[.agg #[.int .u8 k, .slice a m c], .agg #[.int .u8 kr, .bool br, .int .i64 nr, .string sr, .slice ar1 lr.len cr1, .slice ar2 fr.len cr2]] w (EvPost w (BF k x y)) := by
 have HA := Lib.hid ha
 have HL := Lib.hid hL
 have hD := Ax (w := w) (.cells #[.int .u8 k, .slice a m c] 140) (.cells #[.int .u8 kr, .bool br, .int .i64 nr, .string sr, .slice ar1 lr.len cr1, .slice ar2 fr.len cr2] 27) Ah
 have hX := Af (o := Ah) (Af (o := .cells #[.int .u8 kr, .bool br, .int .i64 nr, .string sr, .slice ar1 lr.len cr1, .slice ar2 fr.len cr2] 27) (Ab w (.cells #[.int .u8 k, .slice a m c] 140)))
 have hY := Af (o := Ah) (Ab (w.alloc (.cells #[.int .u8 k, .slice a m c] 140)) (.cells #[.int .u8 kr, .bool br, .int .i64 nr, .string sr, .slice ar1 lr.len cr1, .slice ar2 fr.len cr2] 27))
 have hZ := Ab ((w.alloc (.cells #[.int .u8 k, .slice a m c] 140)).alloc (.cells #[.int .u8 kr, .bool br, .int .i64 nr, .string sr, .slice ar1 lr.len cr1, .slice ar2 fr.len cr2] 27)) Ah
 have ez1 : (w.alloc (.cells #[.int .u8 k, .slice a m c] 140)).heap.size = w.heap.size + 1 := by simp
 have ez2 : ((w.alloc (.cells #[.int .u8 k, .slice a m c] 140)).alloc (.cells #[.int .u8 kr, .bool br, .int .i64 nr, .string sr, .slice ar1 lr.len cr1, .slice ar2 fr.len cr2] 27)).heap.size = w.heap.size + 1 + 1 := by simp
 have ez3 : (((w.alloc (.cells #[.int .u8 k, .slice a m c] 140)).alloc (.cells #[.int .u8 kr, .bool br, .int .i64 nr, .string sr, .slice ar1 lr.len cr1, .slice ar2 fr.len cr2] 27)).alloc Ah).heap.size = w.heap.size + 1 + 1 + 1 := by simp
 rw [ez1] at hY
 rw [ez2] at hZ
 clear ha hL
 go_enter Tryz.func219, Tryz.ntmps219
 go_upto_region 1 with (fail)
 generalize ((w.alloc (.cells #[.int .u8 k, .slice a m c] 140)).alloc (.cells #[.int .u8 kr, .bool br, .int .i64 nr, .string sr, .slice ar1 lr.len cr1, .slice ar2 fr.len cr2] 27)).alloc Ah = W at *
 have HD := Lib.hid hD
 have HX := Lib.hid hX
 have HZ := Lib.hid hZ
 have HW := Lib.hid ez3
 obtain ⟨x0, x1⟩ := AT hX
 obtain ⟨y0, y1, y2, y3, y4, y5, y6⟩ := Ae hY
 clear hD hX hY hZ ez1 ez2 ez3
 obtain ⟨⟨⟨k', b', n', s', l', f'⟩, wy'⟩, hrz⟩ : ∃ r : Rz, BF k x y = r := ⟨_, rfl⟩
 have HRZ := Lib.hid hrz
 have HKK := Lib.hid hk
 have q14 : decide (k ≤ 14) = true := by simp; omega
 clear hrz hk
 have HVS := Lib.hid hvs
 clear hvs
 subst hrs
 have HCN := Lib.hid (fun (A : Option Addr) (c : Nat) (w' : World) (hr : ValRow w' (Au vs) A) => Cn vs A c w' hl hr)
 rw [hnz] at HCN
 clear hnz
 go_upto_region 5 with (first | (go_at_call 209; refine (HA.out _ HD.out).mono ?_; rintro e w7 ⟨hb7, A, c7, rfl, hc7, hrow7⟩; have HX7 := Lib.hid (blk hb7 HX.out); have HZ7 := Lib.hid (blk hb7 HZ.out); have HB7 := Lib.hid (Aa HD.out HD.out.size hb7); have HR7 := Lib.hid (Dz hrow7); clear hb7 hrow7) | (go_at_call 220; refine (HCN.out _ _ _ HR7.out).mono ?_; rintro e w8 ⟨rfl, hb8⟩; have HX8 := Lib.hid (blk hb8 HX7.out); have HZ8 := Lib.hid (blk hb8 HZ7.out); have HB8 := Lib.hid (Aa HB7.out HB7.out.size hb8); have HR8 := Lib.hid (HR7.out.keep hb8); clear hb8))
 clear x0 x1 y0 y1 y2 y3 y4 y5 y6
 obtain ⟨x0, x1⟩ := AT HX8.out
 obtain ⟨z0, z1, z2, z3, z4, z5, z6⟩ := Ae HZ8.out
 have HCT := Lib.hid (M8 k x y vs HVS.out A c7 w8 HKK.out HR8.out hc7)
 rw [HRZ.out] at HCT
 have lz8 : w.heap.size + 1 + 1 < w8.heap.size := lt_of_block HZ8.out
 go_wp2_with (go_at_call 222; refine (HCT.out).mono ?_; intro e w9 hev; obtain ⟨hb9, d1, e1, d2, e2, rfl, hv9⟩ := hev.parts; clear z0 z1 z2 z3 z4 z5 z6; have HB9 := Lib.hid (Aa HB8.out HB8.out.size hb9); obtain ⟨z0, z1, z2, z3, z4, z5, z6⟩ := Ae (blk hb9 HZ8.out); have HV9 := Lib.hid hv9; clear hev hb9 hv9)
 refine bodyPost_ret (v := .tuple #[.agg #[.int .u8 k', .bool b', .int .i64 n', .string s', .slice d1 l'.len e1, .slice d2 f'.len e2], .int .i64 wy']) (by simp [results, Tryz.results219, go_sem, Ai, z0, z1, z2, z3, z4, z5]) rfl ?_
 rw [HRZ.out]; exact ⟨Ag (by omega) [_, _, _, _, _, _] 0 _ HB9.out, _, _, _, _, _, _, rfl, RV.above (us := [_, _, _, _, _, _]) HV9.out (by omega) (by omega) (Below.refl _ _)⟩
set_option maxHeartbeats 4000000 in
set_option maxRecDepth 100000 in
theorem Og (k : Int) (a : Option Addr) (m c : Nat) (rs : Except Int (List VT)) (kr : Int) (br : Bool) (nr : Int) (sr : ByteArray) (ar1 : Option Addr) (lr : VL) (cr1 : Nat) (ar2 : Option Addr) (fr : FL) (cr2 : Nat) (w : World) (hL : Laid w)
  (ha : ∀ w', Below w.heap.size w w' → Calls Tryz.prog 209 #[.slice a m c, .agg #[.int .u8 kr, .bool br, .int .i64 nr, .string sr, .slice ar1 lr.len cr1, .slice ar2 fr.len cr2]] w' (BP w' rs)) (x y : VT) (vs : List VT) (hvs : vs = [x, y]) (hrs : rs = .ok vs) (hl : vs.length ≤ 1000) (hnz : (vs.any fun v => v.kind == 0) = false) (q11 : (k == 11) = false) (q9 : (k == 9) = false) (q10 : (k == 10) = false) (hk : 15 ≤ k) :
  Calls Tryz.prog 219 #[.agg #[.int .u8 k, .slice a m c], .agg #[.int .u8 kr, .bool br, .int .i64 nr, .string sr, .slice ar1 lr.len cr1, .slice ar2 fr.len cr2]] w (EvPost w (DT k x y)) := by
 have HA := Lib.hid ha
 have HL := Lib.hid hL
 have hD := Ax (w := w) (.cells #[.int .u8 k, .slice a m c] 140) (.cells #[.int .u8 kr, .bool br, .int .i64 nr, .string sr, .slice ar1 lr.len cr1, .slice ar2 fr.len cr2] 27) Ah
 have hX := Af (o := Ah) (Af (o := .cells #[.int .u8 kr, .bool br, .int .i64 nr, .string sr, .slice ar1 lr.len cr1, .slice ar2 fr.len cr2] 27) (Ab w (.cells #[.int .u8 k, .slice a m c] 140)))
 have hY := Af (o := Ah) (Ab (w.alloc (.cells #[.int .u8 k, .slice a m c] 140)) (.cells #[.int .u8 kr, .bool br, .int .i64 nr, .string sr, .slice ar1 lr.len cr1, .slice ar2 fr.len cr2] 27))
 have hZ := Ab ((w.alloc (.cells #[.int .u8 k, .slice a m c] 140)).alloc (.cells #[.int .u8 kr, .bool br, .int .i64 nr, .string sr, .slice ar1 lr.len cr1, .slice ar2 fr.len cr2] 27)) Ah
 have ez1 : (w.alloc (.cells #[.int .u8 k, .slice a m c] 140)).heap.size = w.heap.size + 1 := by simp
 have ez2 : ((w.alloc (.cells #[.int .u8 k, .slice a m c] 140)).alloc (.cells #[.int .u8 kr, .bool br, .int .i64 nr, .string sr, .slice ar1 lr.len cr1, .slice ar2 fr.len cr2] 27)).heap.size = w.heap.size + 1 + 1 := by simp
 have ez3 : (((w.alloc (.cells #[.int .u8 k, .slice a m c] 140)).alloc (.cells #[.int .u8 kr, .bool br, .int .i64 nr, .string sr, .slice ar1 lr.len cr1, .slice ar2 fr.len cr2] 27)).alloc Ah).heap.size = w.heap.size + 1 + 1 + 1 := by simp
 rw [ez1] at hY
 rw [ez2] at hZ
 clear ha hL
 go_enter Tryz.func219, Tryz.ntmps219
 go_upto_region 1 with (fail)
 generalize ((w.alloc (.cells #[.int .u8 k, .slice a m c] 140)).alloc (.cells #[.int .u8 kr, .bool br, .int .i64 nr, .string sr, .slice ar1 lr.len cr1, .slice ar2 fr.len cr2] 27)).alloc Ah = W at *
 have HD := Lib.hid hD
 have HX := Lib.hid hX
 have HZ := Lib.hid hZ
 have HW := Lib.hid ez3
 obtain ⟨x0, x1⟩ := AT hX
 obtain ⟨y0, y1, y2, y3, y4, y5, y6⟩ := Ae hY
 clear hD hX hY hZ ez1 ez2 ez3
 obtain ⟨⟨⟨k', b', n', s', l', f'⟩, wy'⟩, hrz⟩ : ∃ r : Rz, DT k x y = r := ⟨_, rfl⟩
 have HRZ := Lib.hid hrz
 have HKK := Lib.hid hk
 have q14 : decide (k ≤ 14) = false := by simp; omega
 clear hrz hk
 have HVS := Lib.hid hvs
 clear hvs
 subst hrs
 have HCN := Lib.hid (fun (A : Option Addr) (c : Nat) (w' : World) (hr : ValRow w' (Au vs) A) => Cn vs A c w' hl hr)
 rw [hnz] at HCN
 clear hnz
 go_upto_region 5 with (first | (go_at_call 209; refine (HA.out _ HD.out).mono ?_; rintro e w7 ⟨hb7, A, c7, rfl, hc7, hrow7⟩; have HX7 := Lib.hid (blk hb7 HX.out); have HZ7 := Lib.hid (blk hb7 HZ.out); have HB7 := Lib.hid (Aa HD.out HD.out.size hb7); have HR7 := Lib.hid (Dz hrow7); clear hb7 hrow7) | (go_at_call 220; refine (HCN.out _ _ _ HR7.out).mono ?_; rintro e w8 ⟨rfl, hb8⟩; have HX8 := Lib.hid (blk hb8 HX7.out); have HZ8 := Lib.hid (blk hb8 HZ7.out); have HB8 := Lib.hid (Aa HB7.out HB7.out.size hb8); have HR8 := Lib.hid (HR7.out.keep hb8); clear hb8))
 clear x0 x1 y0 y1 y2 y3 y4 y5 y6
 obtain ⟨x0, x1⟩ := AT HX8.out
 obtain ⟨z0, z1, z2, z3, z4, z5, z6⟩ := Ae HZ8.out
 have hr8 := HR8.out
 rw [HVS.out] at hr8
 have hl1 : 1 < vs.length := by rw [HVS.out]; simp
 have hl0 : 0 < vs.length := by omega
 obtain ⟨b, o, rfl, hbs, ⟨v0, v1, v2, v3, v4, v5, d0, d1, d2, d3, d4, d5, hx⟩, ⟨u0, u1, u2, u3, u4, u5, g0, g1, g2, g3, g4, g5, hy⟩⟩ := Ls hr8
 have HHD := Lib.hid (fun (w' : World) (hb : Below w8.heap.size w8 w') => MD k x y v0 v1 v2 v3 v4 v5 u0 u1 u2 u3 u4 u5 w' (hx.grow hb) (hy.grow hb))
 rw [HRZ.out] at HHD
 obtain ⟨kx, bx, nx, sx, lx, fx, ax1, cx1, ax2, cx2, rfl, ex, _⟩ := RV.mk_parts hx
 simp only [List.cons.injEq, and_true] at ex
 obtain ⟨rfl, rfl, rfl, rfl, rfl, rfl⟩ := ex
 obtain ⟨ky, bY, ny, sy, ly, fy, ay1, cy1, ay2, cy2, rfl, ey, _⟩ := RV.mk_parts hy
 simp only [List.cons.injEq, and_true] at ey
 obtain ⟨rfl, rfl, rfl, rfl, rfl, rfl⟩ := ey
 have lz8 : w.heap.size + 1 + 1 < w8.heap.size := lt_of_block HZ8.out
 clear hx hy hr8
 go_upto_region 17 with (fail)
 go_region_with (go_at_call 223; refine (HHD.out _ ((Below.refl _ _).drew)).mono ?_; intro e w9 hev; obtain ⟨hb9, d1', e1, d2', e2, rfl, hv9⟩ := hev.parts; clear z0 z1 z2 z3 z4 z5 z6; have HB9 := Lib.hid (Aa (HB8.out.drew) (HB8.out.drew).size hb9); obtain ⟨z0, z1, z2, z3, z4, z5, z6⟩ := Ae (blk hb9 (show w8.drew.heap[_]? = _ from HZ8.out)); have HV9 := Lib.hid hv9; clear hev hb9 hv9)
 all_goals
  go_wp2_with fail
  refine bodyPost_ret (v := .tuple #[.agg #[.int .u8 k', .bool b', .int .i64 n', .string s', .slice d1' l'.len e1, .slice d2' f'.len e2], .int .i64 wy']) (by simp [results, Tryz.results219, go_sem, Ai, z0, z1, z2, z3, z4, z5]) rfl ?_
  rw [HRZ.out]; exact ⟨Ag (by omega) [_, _, _, _, _, _] 0 _ HB9.out, _, _, _, _, _, _, rfl, RV.above (us := [_, _, _, _, _, _]) HV9.out (by first | (show _ < w8.heap.size; omega) | (show _ ≤ w8.heap.size; omega)) (by first | (show _ < w8.heap.size; omega) | (show _ ≤ w8.heap.size; omega)) (Below.refl _ _)⟩
theorem EL (k : Int) (rs : List Rz) (a : Option Addr) (m c : Nat) (row : VT) (r0 r1 r2 r3 r4 r5 : Value) (w : World) (hk : (9 ≤ k ∧ k ≤ 11 ∧ rs.length = 1) ∨ (12 ≤ k ∧ k ≤ 20 ∧ rs.length = 2)) (hL : Laid w) (hr : RV w 0 w.heap.size row [r0, r1, r2, r3, r4, r5])
   (ha : ∀ w', Below w.heap.size w w' → Calls Tryz.prog 209 #[.slice a m c, .agg #[r0, r1, r2, r3, r4, r5]] w' (BP w' (AV rs))) :
   Calls Tryz.prog 219 #[.agg #[.int .u8 k, .slice a m c], .agg #[r0, r1, r2, r3, r4, r5]] w (EvPost w (Dm k rs)) := by
 obtain ⟨kr, br, nr, sr, lr, fr, ar1, cr1, ar2, cr2, rfl, er, hj⟩ := RV.mk_parts hr
 clear hj
 simp only [List.cons.injEq, and_true] at er
 obtain ⟨rfl, rfl, rfl, rfl, rfl, rfl⟩ := er
 unfold Dm
 cases hrs : AV rs with
 | error e =>
   rw [hrs] at ha
   have he : e ≠ 0 := Fn _ _ hrs
   exact PN k a m c _ kr br nr sr ar1 lr cr1 ar2 fr cr2 w hL ha e rfl (by simpa using he)
 | ok vs =>
   rw [hrs] at ha
   have hlen := D5 _ _ hrs
   simp only
   by_cases q11 : k = 11
   · rw [if_pos q11]
     exact LJ k a m c _ kr br nr sr ar1 lr cr1 ar2 fr cr2 w hL ha vs rfl (by omega) _ rfl (by simpa using q11)
   rw [if_neg q11]
   have p11 : (k == 11) = false := by simpa using q11
   cases hnz : (vs.any fun v => v.kind == 0) with
   | true =>
     rw [if_pos rfl]
     exact Oh k a m c _ kr br nr sr ar1 lr cr1 ar2 fr cr2 w hL ha vs rfl (by omega) hnz p11
   | false =>
     rw [if_neg (by simp)]
     by_cases q9 : k = 9
     · rw [if_pos q9]
       obtain ⟨x, hvs⟩ : ∃ x, vs = [x] := by
         match vs, (show vs.length = 1 by omega) with
         | [x], _ => exact ⟨x, rfl⟩
       have hx : vs.getD 0 Am = x := by rw [hvs]; rfl
       rw [hx]
       exact PO k a m c _ kr br nr sr ar1 lr cr1 ar2 fr cr2 w hL ha x [] vs hvs rfl (by omega) hnz p11 (by simpa using q9)
     rw [if_neg q9]
     have p9 : (k == 9) = false := by simpa using q9
     by_cases q10 : k = 10
     · rw [if_pos q10]
       obtain ⟨x, hvs⟩ : ∃ x, vs = [x] := by
         match vs, (show vs.length = 1 by omega) with
         | [x], _ => exact ⟨x, rfl⟩
       have hx : vs.getD 0 Am = x := by rw [hvs]; rfl
       rw [hx]
       by_cases h1 : x.kind = 1
       · rw [if_pos h1]
         exact PP k a m c _ kr br nr sr ar1 lr cr1 ar2 fr cr2 w hL ha x [] vs hvs rfl (by omega) hnz p11 p9 (by simpa using q10) (by simpa using h1)
       · rw [if_neg h1]
         exact JX k a m c _ kr br nr sr ar1 lr cr1 ar2 fr cr2 w hL ha x [] vs hvs rfl (by omega) hnz p11 p9 (by simpa using q10) (by simpa using h1)
     rw [if_neg q10]
     have p10 : (k == 10) = false := by simpa using q10
     obtain ⟨x, y, hvs⟩ : ∃ x y, vs = [x, y] := by
       match vs, (show vs.length = 2 by omega) with
       | [x, y], _ => exact ⟨x, y, rfl⟩
     have hx : vs.getD 0 Am = x := by rw [hvs]; rfl
     have hy : vs.getD 1 Am = y := by rw [hvs]; rfl
     rw [hx, hy]
     by_cases q14 : k ≤ 14
     · rw [if_pos q14]
       exact Lb k a m c _ kr br nr sr ar1 lr cr1 ar2 fr cr2 w hL ha x y vs hvs rfl (by omega) hnz p11 p9 p10 (by omega)
     · rw [if_neg q14]
       exact Og k a m c _ kr br nr sr ar1 lr cr1 ar2 fr cr2 w hL ha x y vs hvs rfl (by omega) hnz p11 p9 p10 (by omega)
theorem Jd (S : Nat → Prop) (k : Int) (fs : List (VT → Rz)) (a : Option Addr) (c : Nat) (row : VT) (r0 r1 r2 r3 r4 r5 : Value) (w : World) (hk : (9 ≤ k ∧ k ≤ 11 ∧ fs.length = 1) ∨ (12 ≤ k ∧ k ≤ 20 ∧ fs.length = 2)) (hN : NodeRow S w fs a) (hL : Laid w) (hr : RV w 0 w.heap.size row [r0, r1, r2, r3, r4, r5]) :
  Calls Tryz.prog 219 #[.agg #[.int .u8 k, .slice a fs.length c], .agg #[r0, r1, r2, r3, r4, r5]] w (EvPost w (Dm k (fs.map fun f => f row))) :=
 EL k (fs.map fun f => f row) a fs.length c row r0 r1 r2 r3 r4 r5 w (by rw [List.length_map]; exact hk) hL hr (fun w' hb => (FY S fs a c row r0 r1 r2 r3 r4 r5 w' (hN.later (Later.of_below hb)) (by omega) (hL.below hb) (hr.grow hb)).mono fun _ _ h => h.weak)
end Go.Proofs.YtbemgcjckchdjaaGreatDoor
