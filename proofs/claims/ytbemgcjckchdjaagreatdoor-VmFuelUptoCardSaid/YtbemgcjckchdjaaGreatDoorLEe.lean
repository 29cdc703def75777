import Derived.Test.YtbemgcjckchdjaaGreatDoorLEd
/- Nodes by what they come to; expr.flag. -/
namespace Go.Proofs.YtbemgcjckchdjaaGreatDoor
open Go.RowKit
set_option linter.unusedSimpArgs false
set_option linter.unusedVariables false
def Later (S : Nat → Prop) (w w' : World) : Prop := w.heap.size ≤ w'.heap.size ∧ ∀ b, b < w.heap.size → ¬ S b → w'.heap[b]? = w.heap[b]?
theorem Later.of_below {S : Nat → Prop} {w w' : World} (h : Below w.heap.size w w') : Later S w w' := ⟨h.size, fun b hb _ => h.block b hb⟩
theorem Later.trans {S : Nat → Prop} {w w1 w2 : World} (h1 : Later S w w1) (h2 : Later S w1 w2) : Later S w w2 :=
 ⟨Nat.le_trans h1.1 h2.1, fun b hb hs => (h2.2 b (Nat.lt_of_lt_of_le hb h1.1) hs).trans (h1.2 b hb hs)⟩
def Hj (T : TypeId) (x : Value) (fn : FuncId) : Prop :=
 (∀ w, (method 393 T x "codicil/expr.eval").run Tryz.prog w = .ok (fn, x) w) ∧ (∀ (args : Array Value) (w : World), (callFunc fn args).run Tryz.prog w = .ok (.enter fn args) w)
def Node (S : Nat → Prop) (w : World) (v : Value) (F : VT → Rz) : Prop :=
 ∃ T x fn, v = .iface T x ∧ Hj T x fn ∧ ∀ (w' : World) (row : VT) (v0 v1 v2 v3 v4 v5 : Value), Later S w w' → Laid w' → RV w' 0 w'.heap.size row [v0, v1, v2, v3, v4, v5] → Calls Tryz.prog fn #[x, .agg #[v0, v1, v2, v3, v4, v5]] w' (EvPost w' (F row))
theorem Node.later {S : Nat → Prop} {w w1 : World} {v : Value} {F : VT → Rz} (h : Node S w v F) (hl : Later S w w1) : Node S w1 v F := by
 obtain ⟨T, x, fn, e, hm, hc⟩ := h
 exact ⟨T, x, fn, e, hm, fun w' row v0 v1 v2 v3 v4 v5 hl' => hc w' row v0 v1 v2 v3 v4 v5 (hl.trans hl')⟩
theorem EvPost.parts {w w' : World} {k : Int} {b : Bool} {n : Int} {s : ByteArray} {l : VL} {f : FL} {wy : Int} {x : Ending} (h : EvPost w (.mk k b n s l f, wy) x w') : Below w.heap.size w w' ∧ ∃ a1 c1 a2 c2, x = .returned (.tuple #[.agg #[.int .u8 k, .bool b, .int .i64 n, .string s, .slice a1 l.len c1, .slice a2 f.len c2], .int .i64 wy]) ∧
  RV w' w.heap.size w'.heap.size (.mk k b n s l f) [.int .u8 k, .bool b, .int .i64 n, .string s, .slice a1 l.len c1, .slice a2 f.len c2] := by
 obtain ⟨hb, v0, v1, v2, v3, v4, v5, e, hv⟩ := h
 obtain ⟨k', b', n', s', l', f', a1, c1, a2, c2, e1, e2, _⟩ := RV.mk_parts hv
 cases e1
 simp only [List.cons.injEq, and_true] at e2
 obtain ⟨rfl, rfl, rfl, rfl, rfl, rfl⟩ := e2
 exact ⟨hb, a1, c1, a2, c2, e, hv⟩
theorem RV.above {w w1 : World} {t : VT} {cs : List Value} {lo lo' g o : Nat} {us : List Value} (h : RV w lo w.heap.size t cs) (hg : g < lo) (hl : lo' ≤ lo) (hb : Below w.heap.size w w1) : RV (w1.setCells g o us) lo' (w1.setCells g o us).heap.size t cs := by
 rw [Ay]
 have h1 : RV w1 lo w1.heap.size t cs := RV.keep (Same.of_below hb) (Nat.le_refl _) hb.size t cs h
 exact RV.keep (fun _ _ _ => rfl) hl (Nat.le_refl _) t _ (RV.mid (fun b o' hb' _ => Ar (by omega) _ _ _ _) (Nat.le_refl _) t _ h1)
set_option maxHeartbeats 1000000 in
set_option maxRecDepth 100000 in
theorem In (S : Nat → Prop) (v : Value) (F : VT → Rz) (row : VT) (r0 r1 r2 r3 r4 r5 : Value) (w : World) (hN : Node S w v F) (hL : Laid w) (hr : RV w 0 w.heap.size row [r0, r1, r2, r3, r4, r5]) :
   Calls Tryz.prog 218 #[v, .agg #[r0, r1, r2, r3, r4, r5]] w (EvPost w (A4 (F row))) := by
 obtain ⟨T, x, fn, rfl, ⟨m2, m3⟩, hc⟩ := hN
 have HC := Lib.hid (fun (w' : World) (hb : Below w.heap.size w w') => hc w' row r0 r1 r2 r3 r4 r5 (Later.of_below hb) (hL.below hb) (hr.grow hb))
 obtain ⟨kr, br, nr, sr, lr, fr, ar1, cr1, ar2, cr2, rfl, er, _⟩ := RV.mk_parts hr
 simp only [List.cons.injEq, and_true] at er
 obtain ⟨rfl, rfl, rfl, rfl, rfl, rfl⟩ := er
 obtain ⟨⟨⟨k, b, n, s, l, f⟩, wy⟩, hrz⟩ : ∃ r : Rz, F (.mk kr br nr sr lr fr) = r := ⟨_, rfl⟩
 rw [hrz] at HC ⊢
 clear hc hr hrz hL
 have hD0 := Aj (w := w) (.cells #[.int .u8 kr, .bool br, .int .i64 nr, .string sr, .slice ar1 lr.len cr1, .slice ar2 fr.len cr2] 27) Ah
 have HZ0 := Lib.hid (show ((w.alloc (.cells #[.int .u8 kr, .bool br, .int .i64 nr, .string sr, .slice ar1 lr.len cr1, .slice ar2 fr.len cr2] 27)).alloc Ah).heap[w.heap.size + 1]? = some Ah from by
   have := Ab (w.alloc (.cells #[.int .u8 kr, .bool br, .int .i64 nr, .string sr, .slice ar1 lr.len cr1, .slice ar2 fr.len cr2] 27)) Ah
   simpa using this)
 have HD0 := Lib.hid hD0
 clear hD0
 have q : A4 (.mk k b n s l f, wy) = if wy ≠ 0 then (Am, wy) else if 1 < k then (Am, 5) else (.mk k b n s l f, wy) := rfl
 rw [q]
 clear q
 by_cases hw : wy = 0
 · subst hw
   rw [if_neg (by simp)]
   by_cases hk : 1 < k
   · rw [if_pos hk]
     have hk' : decide (1 < k) = true := by simpa using hk
     go_enter Tryz.func218, Tryz.ntmps218
     go_upto_region 2 with ((with_reducible refine (HC.out _ HD0.out).mono ?_); intro e w7 hev; obtain ⟨hb7, a1, c1, a2, c2, rfl, hv7⟩ := hev.parts; have HZ7 := Lib.hid (blk hb7 HZ0.out); have HB7 := Lib.hid (Aa HD0.out HD0.out.size hb7); have HV7 := Lib.hid hv7; have HS7 := Lib.hid hb7.size; clear hb7 hv7 hev)
     have l7 := lt_of_block HZ7.out
     have hb8 := Ad (w := w7) (.cells #[.int .u8 k, .bool b, .int .i64 n, .string s, .slice a1 l.len c1, .slice a2 f.len c2] 27)
     have hx8 := Ab w7 (.cells #[.int .u8 k, .bool b, .int .i64 n, .string s, .slice a1 l.len c1, .slice a2 f.len c2] 27)
     have hs7 : w.heap.size + 2 ≤ w7.heap.size := by simpa using HS7.out
     have hz8 := blk hb8 HZ7.out
     have HB8 := Lib.hid (Aa HB7.out HB7.out.size hb8)
     generalize w7.alloc (.cells #[.int .u8 k, .bool b, .int .i64 n, .string s, .slice a1 l.len c1, .slice a2 f.len c2] 27) = w8 at *
     have HS8 := HS7
     have HZ8 := Lib.hid hz8
     obtain ⟨z0, z1, z2, z3, z4, z5, z6⟩ := Ae hz8
     obtain ⟨p0, p1, p2, p3, p4, p5, p6⟩ := Ae hx8
     have l8 := lt_of_block hz8
     have HB9 := Lib.hid hb8
     clear hb8 hx8 hz8 HZ7 HB7
     go_wp2_with fail
     refine bodyPost_ret (v := .tuple #[Bs, .int .i64 5]) (by simp [results, Tryz.results218, go_sem, Ai, z0, z1, z2, z3, z4, z5]) rfl ?_
     exact Bx (Ag (Nat.le_succ _) [_, _, _, _, _, _] 0 _ HB8.out)
   · rw [if_neg hk]
     have hk' : decide (1 < k) = false := by simpa using hk
     go_enter Tryz.func218, Tryz.ntmps218
     go_upto_region 2 with ((with_reducible refine (HC.out _ HD0.out).mono ?_); intro e w7 hev; obtain ⟨hb7, a1, c1, a2, c2, rfl, hv7⟩ := hev.parts; have HZ7 := Lib.hid (blk hb7 HZ0.out); have HB7 := Lib.hid (Aa HD0.out HD0.out.size hb7); have HV7 := Lib.hid hv7; have HS7 := Lib.hid hb7.size; clear hb7 hv7 hev)
     have l7 := lt_of_block HZ7.out
     have hb8 := Ad (w := w7) (.cells #[.int .u8 k, .bool b, .int .i64 n, .string s, .slice a1 l.len c1, .slice a2 f.len c2] 27)
     have hx8 := Ab w7 (.cells #[.int .u8 k, .bool b, .int .i64 n, .string s, .slice a1 l.len c1, .slice a2 f.len c2] 27)
     have hs7 : w.heap.size + 2 ≤ w7.heap.size := by simpa using HS7.out
     have hz8 := blk hb8 HZ7.out
     have HB8 := Lib.hid (Aa HB7.out HB7.out.size hb8)
     generalize w7.alloc (.cells #[.int .u8 k, .bool b, .int .i64 n, .string s, .slice a1 l.len c1, .slice a2 f.len c2] 27) = w8 at *
     have HS8 := HS7
     have HZ8 := Lib.hid hz8
     obtain ⟨z0, z1, z2, z3, z4, z5, z6⟩ := Ae hz8
     obtain ⟨p0, p1, p2, p3, p4, p5, p6⟩ := Ae hx8
     have l8 := lt_of_block hz8
     have HB9 := Lib.hid hb8
     clear hb8 hx8 hz8 HZ7 HB7
     go_wp2_with fail
     refine bodyPost_ret (v := .tuple #[.agg #[.int .u8 k, .bool b, .int .i64 n, .string s, .slice a1 l.len c1, .slice a2 f.len c2], .int .i64 0]) (by simp [results, Tryz.results218, go_sem, Ai, z0, z1, z2, z3, z4, z5]) rfl ?_
     exact ⟨Ag (Nat.le_succ _) [_, _, _, _, _, _] 0 _ HB8.out, _, _, _, _, _, _, rfl, RV.above (us := [_, _, _, _, _, _]) HV7.out (by simp) (by simp; omega) HB9.out⟩
 · rw [if_pos hw]
   have hw' : (wy == 0) = false := by simpa using hw
   have hw2 : (wy != 0) = true := by simpa using hw
   go_enter Tryz.func218, Tryz.ntmps218
   go_upto_region 2 with ((with_reducible refine (HC.out _ HD0.out).mono ?_); intro e w7 hev; obtain ⟨hb7, a1, c1, a2, c2, rfl, hv7⟩ := hev.parts; have HZ7 := Lib.hid (blk hb7 HZ0.out); have HB7 := Lib.hid (Aa HD0.out HD0.out.size hb7); have HV7 := Lib.hid hv7; have HS7 := Lib.hid hb7.size; clear hb7 hv7 hev)
   have l7 := lt_of_block HZ7.out
   have hb8 := Ad (w := w7) (.cells #[.int .u8 k, .bool b, .int .i64 n, .string s, .slice a1 l.len c1, .slice a2 f.len c2] 27)
   have hx8 := Ab w7 (.cells #[.int .u8 k, .bool b, .int .i64 n, .string s, .slice a1 l.len c1, .slice a2 f.len c2] 27)
   have hs7 : w.heap.size + 2 ≤ w7.heap.size := by simpa using HS7.out
   have hz8 := blk hb8 HZ7.out
   have HB8 := Lib.hid (Aa HB7.out HB7.out.size hb8)
   generalize w7.alloc (.cells #[.int .u8 k, .bool b, .int .i64 n, .string s, .slice a1 l.len c1, .slice a2 f.len c2] 27) = w8 at *
   have HS8 := HS7
   have HZ8 := Lib.hid hz8
   obtain ⟨z0, z1, z2, z3, z4, z5, z6⟩ := Ae hz8
   obtain ⟨p0, p1, p2, p3, p4, p5, p6⟩ := Ae hx8
   have l8 := lt_of_block hz8
   have HB9 := Lib.hid hb8
   clear hb8 hx8 hz8 HZ7 HB7
   go_wp2_with fail
   refine bodyPost_ret (v := .tuple #[Bs, .int .i64 wy]) (by simp [results, Tryz.results218, go_sem, Ai, z0, z1, z2, z3, z4, z5]) rfl ?_
   exact Bx (Ag (Nat.le_succ _) [_, _, _, _, _, _] 0 _ HB8.out)
/- The nodes constant and path. -/
theorem FU (x : Value) : Hj 121 x 207 := ⟨fun w => by kernel_rfl, fun args w => Tryz.call207 args w⟩
theorem NT (x : Value) : Hj 182 x 241 := ⟨fun w => by kernel_rfl, fun args w => Tryz.call241 args w⟩
theorem DY (x : Value) : Hj 135 x 208 := ⟨fun w => by kernel_rfl, fun args w => Tryz.call208 args w⟩
theorem FV (x : Value) : Hj 140 x 219 := ⟨fun w => by kernel_rfl, fun args w => Tryz.call219 args w⟩
theorem MP (x : Value) : Hj 137 x 217 := ⟨fun w => by kernel_rfl, fun args w => Tryz.call217 args w⟩
set_option maxHeartbeats 1000000 in
set_option maxRecDepth 100000 in
theorem IR (k : Int) (b : Bool) (n : Int) (s : ByteArray) (row : VT) (r0 r1 r2 r3 r4 r5 : Value) (w : World) (hr : RV w 0 w.heap.size row [r0, r1, r2, r3, r4, r5]) (hv : ∀ (w' : World) lo hi, RV w' lo hi (.mk k b n s .nil .nil) [.int .u8 k, .bool b, .int .i64 n, .string s, .slice none 0 0, .slice none 0 0]) :
  Calls Tryz.prog 207 #[.agg #[.int .u8 k, .bool b, .int .i64 n, .string s, .slice none 0 0, .slice none 0 0], .agg #[r0, r1, r2, r3, r4, r5]] w (EvPost w (.mk k b n s .nil .nil, 0)) := by
 obtain ⟨kr, br, nr, sr, lr, fr, ar1, cr1, ar2, cr2, rfl, er, _⟩ := RV.mk_parts hr
 simp only [List.cons.injEq, and_true] at er
 obtain ⟨rfl, rfl, rfl, rfl, rfl, rfl⟩ := er
 have HV := Lib.hid hv
 clear hr hv
 go_enter Tryz.func207, Tryz.ntmps207
 go_wp2_with fail
 refine bodyPost_ret (v := .tuple #[.agg #[.int .u8 k, .bool b, .int .i64 n, .string s, .slice none 0 0, .slice none 0 0], .int .i64 0]) (by simp [results, Tryz.results207, go_sem]) rfl ?_
 exact ⟨Ax _ _ _, _, _, _, _, _, _, rfl, HV.out _ _ _⟩
theorem JV (S : Nat → Prop) (w : World) (k : Int) (b : Bool) (n : Int) (s : ByteArray) (hv : ∀ (w' : World) lo hi, RV w' lo hi (.mk k b n s .nil .nil) [.int .u8 k, .bool b, .int .i64 n, .string s, .slice none 0 0, .slice none 0 0]) :
  Node S w (.iface 121 (.agg #[.int .u8 k, .bool b, .int .i64 n, .string s, .slice none 0 0, .slice none 0 0])) (fun _ => (.mk k b n s .nil .nil, 0)) :=
 ⟨_, _, _, rfl, FU _, fun w' row v0 v1 v2 v3 v4 v5 _ _ hr => IR k b n s row v0 v1 v2 v3 v4 v5 w' hr hv⟩
set_option maxHeartbeats 1000000 in
set_option maxRecDepth 100000 in
theorem LK (names : List ByteArray) (a : Option Addr) (c : Nat) (row : VT) (r0 r1 r2 r3 r4 r5 : Value) (w : World) (hr : RV w 0 w.heap.size row [r0, r1, r2, r3, r4, r5]) (hL : Laid w) (hlen : names.length ≤ LIM) (hsz : ∀ p ∈ names, p.size ≤ LIM)
   (hp : names.length = 0 ∨ ∃ b o, a = some ⟨b, o, none⟩ ∧ b < w.heap.size ∧ ∀ i, i < names.length → w.cell? ⟨b, o + i, none⟩ = some (.string (names.getD i ⟨#[]⟩))) :
   Calls Tryz.prog 241 #[.agg #[.slice a names.length c], .agg #[r0, r1, r2, r3, r4, r5]] w (EvPost w ((B5 row names).getD Am, 0)) := by
 have HG := Lib.hid (fun (w' : World) (hb : Below w.heap.size w w') => Ma row names w' [r0, r1, r2, r3, r4, r5] w'.heap.size a c (hr.grow hb) (Nat.le_refl _) (hL.below hb) hlen hsz (by
   rcases hp with h | ⟨b, o, e, hlt, hc⟩
   · exact Or.inl h
   · exact Or.inr ⟨b, o, e, Nat.lt_of_lt_of_le hlt hb.size, fun i hi => Ac hb (hc i hi)⟩))
 obtain ⟨kr, br, nr, sr, lr, fr, ar1, cr1, ar2, cr2, rfl, er, _⟩ := RV.mk_parts hr
 simp only [List.cons.injEq, and_true] at er
 obtain ⟨rfl, rfl, rfl, rfl, rfl, rfl⟩ := er
 generalize B5 (.mk kr br nr sr lr fr) names = r at *
 generalize names.length = m at *
 clear hr hL hlen hsz hp
 have hD := Ax (w := w) (.cells #[.slice a m c] 182) (.cells #[.int .u8 kr, .bool br, .int .i64 nr, .string sr, .slice ar1 lr.len cr1, .slice ar2 fr.len cr2] 27) Ah
 have HZ : Hid ((((w.alloc (.cells #[.slice a m c] 182)).alloc (.cells #[.int .u8 kr, .bool br, .int .i64 nr, .string sr, .slice ar1 lr.len cr1, .slice ar2 fr.len cr2] 27)).alloc Ah).heap[w.heap.size + 1 + 1]? = some Ah) := Lib.hid (by
   have := Ab ((w.alloc (.cells #[.slice a m c] 182)).alloc (.cells #[.int .u8 kr, .bool br, .int .i64 nr, .string sr, .slice ar1 lr.len cr1, .slice ar2 fr.len cr2] 27)) Ah
   simpa using this)
 have HD := Lib.hid hD
 clear hD
 go_enter Tryz.func241, Tryz.ntmps241
 cases r with
 | none =>
   go_upto_region 2 with (go_at_call 50; refine (HG.out _ HD.out).mono ?_; rintro e w7 ⟨hb7, rfl⟩; have HZ7 := Lib.hid (blk hb7 HZ.out); have HB7 := Lib.hid (Aa HD.out HD.out.size hb7); clear hb7)
   have l7 := lt_of_block HZ7.out
   have hb8 := Ad (w := w7) Ah
   have hx8 := Ab w7 Ah
   have hz8 := blk hb8 HZ7.out
   have HB8 := Lib.hid (Aa HB7.out HB7.out.size hb8)
   generalize w7.alloc Ah = w8 at *
   obtain ⟨z0, z1, z2, z3, z4, z5, z6⟩ := Ae hz8
   obtain ⟨p0, p1, p2, p3, p4, p5, p6⟩ := Ae hx8
   clear hb8 hx8 hz8
   go_wp2_with fail
   refine bodyPost_ret (v := .tuple #[Bs, .int .i64 0]) (by simp [results, Tryz.results241, go_sem, Ai, z0, z1, z2, z3, z4, z5]) rfl ?_
   exact Bx (Ag (Nat.le_succ_of_le (Nat.le_succ _)) [_, _, _, _, _, _] 0 _ HB8.out)
 | some t =>
   go_upto_region 2 with (go_at_call 50; refine (HG.out _ HD.out).mono ?_; rintro e w7 ⟨hb7, k, b, n, s, a1, l1, c1, a2, l2, c2, rfl, hv7⟩; have HZ7 := Lib.hid (blk hb7 HZ.out); have HB7 := Lib.hid (Aa HD.out HD.out.size hb7); have HV7 := Lib.hid hv7; have HS7 := Lib.hid hb7.size; clear hb7 hv7)
   have l7 := lt_of_block HZ7.out
   have hb8 := Ad (w := w7) (.cells #[.int .u8 k, .bool b, .int .i64 n, .string s, .slice a1 l1 c1, .slice a2 l2 c2] 27)
   have hx8 := Ab w7 (.cells #[.int .u8 k, .bool b, .int .i64 n, .string s, .slice a1 l1 c1, .slice a2 l2 c2] 27)
   have hz8 := blk hb8 HZ7.out
   have HB8 := Lib.hid (Aa HB7.out HB7.out.size hb8)
   have HB9 := Lib.hid hb8
   generalize w7.alloc (.cells #[.int .u8 k, .bool b, .int .i64 n, .string s, .slice a1 l1 c1, .slice a2 l2 c2] 27) = w8 at *
   obtain ⟨z0, z1, z2, z3, z4, z5, z6⟩ := Ae hz8
   obtain ⟨p0, p1, p2, p3, p4, p5, p6⟩ := Ae hx8
   clear hb8 hx8 hz8
   go_wp2_with fail
   refine bodyPost_ret (v := .tuple #[.agg #[.int .u8 k, .bool b, .int .i64 n, .string s, .slice a1 l1 c1, .slice a2 l2 c2], .int .i64 0]) (by simp [results, Tryz.results241, go_sem, Ai, z0, z1, z2, z3, z4, z5]) rfl ?_
   exact ⟨Ag (Nat.le_succ_of_le (Nat.le_succ _)) [_, _, _, _, _, _] 0 _ HB8.out, _, _, _, _, _, _, rfl, RV.above (us := [_, _, _, _, _, _]) HV7.out (by simp) (by simp; omega) HB9.out⟩
/- Values whose rows lie in a set of blocks; rows of values that a call makes. -/
mutual
/-- six cells that read as a value; all rows that it leads to lie in blocks of Q -/
def RQ (w : World) (Q : Nat → Prop) : VT → List Value → Prop
 | .mk k b n s l f, cs => ∃ a1 c1 a2 c2, cs = [.int .u8 k, .bool b, .int .i64 n, .string s, .slice a1 l.len c1, .slice a2 f.len c2] ∧
  (0 ≤ k ∧ k ≤ 255) ∧ I64 n ∧ s.size ≤ LIM ∧ l.len ≤ LIM ∧ f.len ≤ LIM ∧ l.len ≤ c1 ∧ f.len ≤ c2 ∧
  (l.len = 0 ∨ ∃ b o, a1 = some ⟨b, o, none⟩ ∧ Q b ∧ RQL w Q l b o) ∧
  (f.len = 0 ∨ ∃ b o, a2 = some ⟨b, o, none⟩ ∧ Q b ∧ RQF w Q f b o)
def RQL (w : World) (Q : Nat → Prop) : VL → Nat → Nat → Prop
 | .nil, _, _ => True
 | .cons t r, b, o => (∃ v0 v1 v2 v3 v4 v5, w.cell? ⟨b, o, none⟩ = some v0 ∧ w.cell? ⟨b, o + 1, none⟩ = some v1 ∧ w.cell? ⟨b, o + 2, none⟩ = some v2 ∧ w.cell? ⟨b, o + 3, none⟩ = some v3 ∧ w.cell? ⟨b, o + 4, none⟩ = some v4 ∧ w.cell? ⟨b, o + 5, none⟩ = some v5 ∧ RQ w Q t [v0, v1, v2, v3, v4, v5]) ∧ RQL w Q r b (o + 6)
def RQF (w : World) (Q : Nat → Prop) : FL → Nat → Nat → Prop
 | .nil, _, _ => True
 | .cons s t r, b, o => (w.cell? ⟨b, o, none⟩ = some (.string s) ∧ s.size ≤ LIM ∧ ∃ v0 v1 v2 v3 v4 v5, w.cell? ⟨b, o + 1, none⟩ = some v0 ∧ w.cell? ⟨b, o + 2, none⟩ = some v1 ∧ w.cell? ⟨b, o + 3, none⟩ = some v2 ∧ w.cell? ⟨b, o + 4, none⟩ = some v3 ∧ w.cell? ⟨b, o + 5, none⟩ = some v4 ∧ w.cell? ⟨b, o + 6, none⟩ = some v5 ∧ RQ w Q t [v0, v1, v2, v3, v4, v5]) ∧ RQF w Q r b (o + 7)
end
def G7 (Q : Nat → Prop) (w w' : World) : Prop := ∀ b o, Q b → w'.cell? ⟨b, o, none⟩ = w.cell? ⟨b, o, none⟩
mutual
theorem RQ.keep {w w' : World} {Q Q' : Nat → Prop} (hs : G7 Q w w') (hq : ∀ b, Q b → Q' b) : ∀ (t : VT) (cs : List Value), RQ w Q t cs → RQ w' Q' t cs
 | .mk k b n s l f, cs, h => by
   unfold RQ at h ⊢
   obtain ⟨a1, c1, a2, c2, e, hk, hn, hsz, hl, hf, hc1, hc2, hL, hF⟩ := h
   refine ⟨a1, c1, a2, c2, e, hk, hn, hsz, hl, hf, hc1, hc2, ?_, ?_⟩
   · rcases hL with h0 | ⟨b', o, rfl, hb, hr⟩
     · exact Or.inl h0
     · exact Or.inr ⟨b', o, rfl, hq _ hb, RQL.keep hs hq l b' o hb hr⟩
   · rcases hF with h0 | ⟨b', o, rfl, hb, hr⟩
     · exact Or.inl h0
     · exact Or.inr ⟨b', o, rfl, hq _ hb, RQF.keep hs hq f b' o hb hr⟩
theorem RQL.keep {w w' : World} {Q Q' : Nat → Prop} (hs : G7 Q w w') (hq : ∀ b, Q b → Q' b) : ∀ (l : VL) (b o : Nat), Q b → RQL w Q l b o → RQL w' Q' l b o
 | .nil, _, _, _, _ => by unfold RQL; trivial
 | .cons t r, b, o, hb, h => by
   unfold RQL at h ⊢
   obtain ⟨⟨v0, v1, v2, v3, v4, v5, e0, e1, e2, e3, e4, e5, hv⟩, hr⟩ := h
   exact ⟨⟨v0, v1, v2, v3, v4, v5, (hs _ _ hb).trans e0, (hs _ _ hb).trans e1, (hs _ _ hb).trans e2, (hs _ _ hb).trans e3, (hs _ _ hb).trans e4, (hs _ _ hb).trans e5, RQ.keep hs hq t _ hv⟩, RQL.keep hs hq r b (o + 6) hb hr⟩
theorem RQF.keep {w w' : World} {Q Q' : Nat → Prop} (hs : G7 Q w w') (hq : ∀ b, Q b → Q' b) : ∀ (f : FL) (b o : Nat), Q b → RQF w Q f b o → RQF w' Q' f b o
 | .nil, _, _, _, _ => by unfold RQF; trivial
 | .cons s t r, b, o, hb, h => by
   unfold RQF at h ⊢
   obtain ⟨⟨es, hss, v0, v1, v2, v3, v4, v5, e0, e1, e2, e3, e4, e5, hv⟩, hr⟩ := h
   exact ⟨⟨(hs _ _ hb).trans es, hss, v0, v1, v2, v3, v4, v5, (hs _ _ hb).trans e0, (hs _ _ hb).trans e1, (hs _ _ hb).trans e2, (hs _ _ hb).trans e3, (hs _ _ hb).trans e4, (hs _ _ hb).trans e5, RQ.keep hs hq t _ hv⟩, RQF.keep hs hq r b (o + 7) hb hr⟩
end
mutual
theorem RQ.of_rv {w : World} {lo hi : Nat} : ∀ (t : VT) (cs : List Value), RV w lo hi t cs → RQ w (fun b => lo ≤ b ∧ b < hi) t cs
 | .mk k b n s l f, cs, h => by
   unfold RV at h
   unfold RQ
   obtain ⟨a1, c1, a2, c2, e, hk, hn, hsz, hl, hf, hc1, hc2, hL, hF⟩ := h
   refine ⟨a1, c1, a2, c2, e, hk, hn, hsz, hl, hf, hc1, hc2, ?_, ?_⟩
   · rcases hL with h0 | ⟨b', o, rfl, h1, h2, hr⟩
     · exact Or.inl h0
     · exact Or.inr ⟨b', o, rfl, ⟨h1, h2⟩, RQL.of_rv l b' o hr⟩
   · rcases hF with h0 | ⟨b', o, rfl, h1, h2, hr⟩
     · exact Or.inl h0
     · exact Or.inr ⟨b', o, rfl, ⟨h1, h2⟩, RQF.of_rv f b' o hr⟩
theorem RQL.of_rv {w : World} {lo hi : Nat} : ∀ (l : VL) (b o : Nat), RL w lo hi l b o → RQL w (fun b => lo ≤ b ∧ b < hi) l b o
 | .nil, _, _, _ => by unfold RQL; trivial
 | .cons t r, b, o, h => by
   unfold RL at h
   unfold RQL
   obtain ⟨⟨v0, v1, v2, v3, v4, v5, e0, e1, e2, e3, e4, e5, hv⟩, hr⟩ := h
   exact ⟨⟨v0, v1, v2, v3, v4, v5, e0, e1, e2, e3, e4, e5, RQ.of_rv t _ hv⟩, RQL.of_rv r b (o + 6) hr⟩
theorem RQF.of_rv {w : World} {lo hi : Nat} : ∀ (f : FL) (b o : Nat), RF w lo hi f b o → RQF w (fun b => lo ≤ b ∧ b < hi) f b o
 | .nil, _, _, _ => by unfold RQF; trivial
 | .cons s t r, b, o, h => by
   unfold RF at h
   unfold RQF
   obtain ⟨⟨es, hss, v0, v1, v2, v3, v4, v5, e0, e1, e2, e3, e4, e5, hv⟩, hr⟩ := h
   exact ⟨⟨es, hss, v0, v1, v2, v3, v4, v5, e0, e1, e2, e3, e4, e5, RQ.of_rv t _ hv⟩, RQF.of_rv r b (o + 7) hr⟩
end
mutual
theorem RQ.to_rv {w : World} {lo hi : Nat} {Q : Nat → Prop} (hq : ∀ b, Q b → lo ≤ b ∧ b < hi) : ∀ (t : VT) (cs : List Value), RQ w Q t cs → RV w lo hi t cs
 | .mk k b n s l f, cs, h => by
   unfold RQ at h
   unfold RV
   obtain ⟨a1, c1, a2, c2, e, hk, hn, hsz, hl, hf, hc1, hc2, hL, hF⟩ := h
   refine ⟨a1, c1, a2, c2, e, hk, hn, hsz, hl, hf, hc1, hc2, ?_, ?_⟩
   · rcases hL with h0 | ⟨b', o, rfl, hb, hr⟩
     · exact Or.inl h0
     · exact Or.inr ⟨b', o, rfl, (hq _ hb).1, (hq _ hb).2, RQL.to_rv hq l b' o hr⟩
   · rcases hF with h0 | ⟨b', o, rfl, hb, hr⟩
     · exact Or.inl h0
     · exact Or.inr ⟨b', o, rfl, (hq _ hb).1, (hq _ hb).2, RQF.to_rv hq f b' o hr⟩
theorem RQL.to_rv {w : World} {lo hi : Nat} {Q : Nat → Prop} (hq : ∀ b, Q b → lo ≤ b ∧ b < hi) : ∀ (l : VL) (b o : Nat), RQL w Q l b o → RL w lo hi l b o
 | .nil, _, _, _ => by unfold RL; trivial
 | .cons t r, b, o, h => by
   unfold RQL at h
   unfold RL
   obtain ⟨⟨v0, v1, v2, v3, v4, v5, e0, e1, e2, e3, e4, e5, hv⟩, hr⟩ := h
   exact ⟨⟨v0, v1, v2, v3, v4, v5, e0, e1, e2, e3, e4, e5, RQ.to_rv hq t _ hv⟩, RQL.to_rv hq r b (o + 6) hr⟩
theorem RQF.to_rv {w : World} {lo hi : Nat} {Q : Nat → Prop} (hq : ∀ b, Q b → lo ≤ b ∧ b < hi) : ∀ (f : FL) (b o : Nat), RQF w Q f b o → RF w lo hi f b o
 | .nil, _, _, _ => by unfold RF; trivial
 | .cons s t r, b, o, h => by
   unfold RQF at h
   unfold RF
   obtain ⟨⟨es, hss, v0, v1, v2, v3, v4, v5, e0, e1, e2, e3, e4, e5, hv⟩, hr⟩ := h
   exact ⟨⟨es, hss, v0, v1, v2, v3, v4, v5, e0, e1, e2, e3, e4, e5, RQ.to_rv hq t _ hv⟩, RQF.to_rv hq r b (o + 7) hr⟩
end
def Vals (w : World) (Q : Nat → Prop) : List VT → List Value → Prop
 | [], cs => cs = []
 | t :: r, cs => ∃ v0 v1 v2 v3 v4 v5 rest, cs = [v0, v1, v2, v3, v4, v5] ++ rest ∧ RQ w Q t [v0, v1, v2, v3, v4, v5] ∧ Vals w Q r rest
theorem Vals.keep {w w' : World} {Q Q' : Nat → Prop} (hs : G7 Q w w') (hq : ∀ b, Q b → Q' b) : ∀ (l : List VT) (cs : List Value), Vals w Q l cs → Vals w' Q' l cs
 | [], cs, h => h
 | t :: r, cs, ⟨v0, v1, v2, v3, v4, v5, rest, e, hv, hr⟩ => ⟨v0, v1, v2, v3, v4, v5, rest, e, RQ.keep hs hq t _ hv, Vals.keep hs hq r rest hr⟩
theorem Vals.snoc {w : World} {Q : Nat → Prop} {t : VT} {u0 u1 u2 u3 u4 u5 : Value} (hv : RQ w Q t [u0, u1, u2, u3, u4, u5]) : ∀ (l : List VT) (cs : List Value), Vals w Q l cs → Vals w Q (l ++ [t]) (cs ++ [u0, u1, u2, u3, u4, u5])
 | [], cs, h => by
   have h : cs = [] := h
   subst h
   exact ⟨u0, u1, u2, u3, u4, u5, [], rfl, hv, rfl⟩
 | x :: r, cs, ⟨v0, v1, v2, v3, v4, v5, rest, e, hx, hr⟩ => ⟨v0, v1, v2, v3, v4, v5, rest ++ [u0, u1, u2, u3, u4, u5], by rw [e, List.append_assoc], hx, Vals.snoc hv r rest hr⟩
theorem Vals.length {w : World} {Q : Nat → Prop} : ∀ (l : List VT) (cs : List Value), Vals w Q l cs → cs.length = l.length * 6
 | [], cs, h => by have h : cs = [] := h; subst h; rfl
 | x :: r, cs, ⟨v0, v1, v2, v3, v4, v5, rest, e, hx, hr⟩ => by
   have := Vals.length r rest hr
   rw [e]
   simp
   omega
theorem Vals.rows {w : World} {Q : Nat → Prop} {g : Nat} : ∀ (l : List VT) (cs : List Value) (o : Nat), Vals w Q l cs → (∀ j, j < cs.length → w.cell? ⟨g, o + j, none⟩ = cs[j]?) → RQL w Q (Au l) g o
 | [], cs, o, h, hc => by unfold Au RQL; trivial
 | x :: r, cs, o, ⟨v0, v1, v2, v3, v4, v5, rest, e, hx, hr⟩, hc => by
   subst e
   unfold Au RQL
   have hc' : ∀ j, j < 6 + rest.length → w.cell? ⟨g, o + j, none⟩ = ([v0, v1, v2, v3, v4, v5] ++ rest)[j]? := fun j hj => hc j (by simp; omega)
   refine ⟨⟨v0, v1, v2, v3, v4, v5, ?_, ?_, ?_, ?_, ?_, ?_, hx⟩, Vals.rows r rest (o + 6) hr (fun j hj => ?_)⟩
   · exact hc' 0 (by omega)
   · exact hc' 1 (by omega)
   · exact hc' 2 (by omega)
   · exact hc' 3 (by omega)
   · exact hc' 4 (by omega)
   · exact hc' 5 (by omega)
   · have h := hc' (6 + j) (by omega)
     rw [← Nat.add_assoc, List.getElem?_append_right (by simp), show 6 + j - [v0, v1, v2, v3, v4, v5].length = j by simp] at h
     exact h
/- expr.all. -/
def NodeRow (S : Nat → Prop) (w : World) (fs : List (VT → Rz)) (a : Option Addr) : Prop :=
 fs.length = 0 ∨ ∃ b o, a = some ⟨b, o, none⟩ ∧ b < w.heap.size ∧ ¬ S b ∧ ∀ i (h : i < fs.length), ∃ v, w.cell? ⟨b, o + i, none⟩ = some v ∧ Node S w v fs[i]
theorem NodeRow.later {S : Nat → Prop} {w w' : World} {fs : List (VT → Rz)} {a : Option Addr} (h : NodeRow S w fs a) (hl : Later S w w') : NodeRow S w' fs a := by
 rcases h with h | ⟨b, o, e, hlt, hs, hc⟩
 · exact Or.inl h
 · refine Or.inr ⟨b, o, e, Nat.lt_of_lt_of_le hlt hl.1, hs, fun i hi => ?_⟩
   obtain ⟨v, hv, hn⟩ := hc i hi
   exact ⟨v, (World.cell?_of_block (a := ⟨b, o + i, none⟩) (hl.2 b hlt hs)).trans hv, hn.later hl⟩
def AllPost (w : World) (r : Except Int (List VT)) (x : Ending) (w' : World) : Prop :=
 Below w.heap.size w w' ∧ match r with
 | .error e => x = .returned (.tuple #[.slice none 0 0, .int .i64 e])
 | .ok vs => ∃ A c, x = .returned (.tuple #[.slice A vs.length c, .int .i64 0]) ∧ vs.length ≤ c ∧ (vs.length = 0 ∨ ∃ b, A = some ⟨b, 0, none⟩ ∧ w.heap.size ≤ b ∧ b < w'.heap.size ∧ RL w' w.heap.size w'.heap.size (Au vs) b 0)
def BP (w : World) (r : Except Int (List VT)) (x : Ending) (w' : World) : Prop :=
 Below w.heap.size w w' ∧ match r with
 | .error e => x = .returned (.tuple #[.slice none 0 0, .int .i64 e])
 | .ok vs => ∃ A c, x = .returned (.tuple #[.slice A vs.length c, .int .i64 0]) ∧ vs.length ≤ c ∧ (vs.length = 0 ∨ ∃ b, A = some ⟨b, 0, none⟩ ∧ w.heap.size ≤ b ∧ b < w'.heap.size ∧ RL w' 0 w'.heap.size (Au vs) b 0)
theorem AllPost.weak {w w' : World} {r : Except Int (List VT)} {x : Ending} (h : AllPost w r x w') : BP w r x w' := by
 cases r with
 | error e => exact h
 | ok vs =>
   obtain ⟨hb, A, c, e, hc, hr⟩ := h
   refine ⟨hb, A, c, e, hc, ?_⟩
   rcases hr with h0 | ⟨b, e2, h1, h2, h3⟩
   · exact Or.inl h0
   · exact Or.inr ⟨b, e2, h1, h2, RL.keep (fun _ _ _ => rfl) (Nat.zero_le _) (Nat.le_refl _) _ b 0 h2 h3⟩
theorem CB (x : Rz) (l : List Rz) : AV (x :: l) = if x.2 ≠ 0 then Except.error x.2 else match AV l with | Except.error e => Except.error e | Except.ok vs => Except.ok (x.1 :: vs) := rfl
theorem Jk (r : Rz) : ∀ l : List Rz, AV (l ++ [r]) = match AV l with | Except.error e => Except.error e | Except.ok vs => if r.2 ≠ 0 then Except.error r.2 else Except.ok (vs ++ [r.1])
 | [] => by
   rw [List.nil_append, CB]
   rfl
 | x :: l => by
   rw [List.cons_append, CB, CB, Jk r l]
   by_cases hx : x.2 ≠ 0
   · simp only [if_pos hx]
   · simp only [if_neg hx]
     cases AV l with
     | error e => rfl
     | ok vs =>
       by_cases hr : r.2 ≠ 0
       · simp only [if_pos hr]
       · simp only [if_neg hr]; rfl
theorem Jl (m : List Rz) (e : Int) : ∀ l : List Rz, AV l = Except.error e → AV (l ++ m) = Except.error e
 | [], h => by cases h
 | x :: l, h => by
   rw [CB] at h
   rw [List.cons_append, CB]
   by_cases hx : x.2 ≠ 0
   · rw [if_pos hx] at h ⊢; exact h
   · rw [if_neg hx] at h ⊢
     cases hl : AV l with
     | error e' => rw [hl] at h; cases h; rw [Jl m _ l hl]
     | ok vs => rw [hl] at h; cases h
theorem D5 : ∀ (l : List Rz) (vs : List VT), AV l = Except.ok vs → vs.length = l.length
 | [], vs, h => by cases h; rfl
 | x :: l, vs, h => by
   rw [CB] at h
   split at h
   · cases h
   · cases hl : AV l with
     | error e => rw [hl] at h; cases h
     | ok us => rw [hl] at h; cases h; simp [D5 l us hl]
def AllAt (w wr : World) (vs : List VT) (v : Value) (row : List Value) : Prop :=
 ∃ cs, wr.ownsRow (w.heap.size + 1) 27 6 v vs.length cs ∧ Vals wr (fun b => w.heap.size < b ∧ b < wr.heap.size ∧ v.ownBlock ≠ some b) vs cs ∧ Below w.heap.size w wr ∧ wr.heap[w.heap.size]? = some (.cells row.toArray 27 (0, 0))
theorem AllAt.old {w wr : World} {vs : List VT} {v : Value} {row : List Value} (h : AllAt w wr vs v row) : w.heap.size < wr.heap.size ∧ (∀ g, v.ownBlock = some g → w.heap.size < g ∧ g < wr.heap.size) := by
 obtain ⟨cs, hO, hV, hB, hX⟩ := h
 exact ⟨lt_of_block hX, fun g hg => by have := hO.lt g hg; omega⟩
theorem Pb {w wr w7 wz w2 : World} {vs : List VT} {v : Value} {cs row : List Value} {t : VT} {u0 u1 u2 u3 u4 u5 : Value} {g cap : Nat} (hO : wr.ownsRow (w.heap.size + 1) 27 6 v vs.length cs) (hV : Vals wr (fun b => w.heap.size < b ∧ b < wr.heap.size ∧ v.ownBlock ≠ some b) vs cs) (hB : Below w.heap.size w wr) (hX : wr.heap[w.heap.size]? = some (.cells row.toArray 27 (0, 0)))
   (hb7 : Below wr.heap.size wr w7) (hv : RV w7 wr.heap.size w7.heap.size t [u0, u1, u2, u3, u4, u5]) (hz : Below w7.heap.size w7 wz) (hgrow : wz.grownBy w2 v.ownBlock) (hown : w2.ownsRow (w.heap.size + 1) 27 6 (.slice (some ⟨g, 0, none⟩) (vs.length + 1) cap) (vs.length + 1) (cs ++ [u0, u1, u2, u3, u4, u5])) (hat : v.ownBlock = some g ∨ w7.heap.size ≤ g) :
   AllAt w w2 (vs ++ [t]) (.slice (some ⟨g, 0, none⟩) (vs.length + 1) cap) row := by
 have lX : w.heap.size < wr.heap.size := lt_of_block hX
 have s7 := hb7.size
 have sz := hz.size
 have s2 := hgrow.size
 have hvo : ∀ k, v.ownBlock = some k → w.heap.size < k ∧ k < wr.heap.size := fun k hk => by have := hO.lt k hk; omega
 have blk2 : ∀ b, b < w7.heap.size → v.ownBlock ≠ some b → w2.heap[b]? = w7.heap[b]? := fun b hb hne => (hgrow.block b (by omega) (fun e => hne e.symm)).trans (hz.block b hb)
 have cel2 : ∀ b o, b < w7.heap.size → v.ownBlock ≠ some b → w2.cell? ⟨b, o, none⟩ = w7.cell? ⟨b, o, none⟩ := fun b o hb hne => World.cell?_of_block (a := ⟨b, o, none⟩) (blk2 b hb hne)
 have hg : ∀ b, b < w7.heap.size → v.ownBlock ≠ some b → some g ≠ some b := fun b hb hne e => by
   cases e
   rcases hat with h | h
   · exact hne h
   · omega
 refine ⟨cs ++ [u0, u1, u2, u3, u4, u5], by rw [List.length_append]; exact hown, ?_, ?_, ?_⟩
 · refine Vals.snoc ?_ _ _ (Vals.keep (Q := fun b => w.heap.size < b ∧ b < wr.heap.size ∧ v.ownBlock ≠ some b) ?_ ?_ _ _ hV)
   · refine RQ.keep (Q := fun b => wr.heap.size ≤ b ∧ b < w7.heap.size) (fun b o hq => ?_) (fun b hq => ?_) t _ (RQ.of_rv t _ hv)
     · exact cel2 b o hq.2 (fun e => by have := hvo b e; omega)
     · exact ⟨by omega, by omega, hg b hq.2 (fun e => by have := hvo b e; omega)⟩
   · intro b o hq
     exact (cel2 b o (by omega) hq.2.2).trans (hb7.cell (p := ⟨b, o, none⟩) hq.2.1)
   · intro b hq
     exact ⟨hq.1, by omega, hg b (by omega) hq.2.2⟩
 · exact (Aa hB (by omega) hb7).trans ((hz.mono (by omega)).grown hgrow (by omega) (fun k hk => by have := hvo k hk; omega))
 · exact (blk2 w.heap.size (by omega) (fun e => by have := hvo _ e; omega)).trans (blk hb7 hX)
theorem Jg (w : World) (v0 v1 v2 v3 v4 v5 : Value) (T : TypeId) : ∀ j u, [v0, v1, v2, v3, v4, v5][j]? = some u → (w.alloc (.cells #[v0, v1, v2, v3, v4, v5] T)).cell? ((⟨w.heap.size, 0, none⟩ : Addr).add j) = some u := by
 intro j u h
 obtain ⟨c0, c1, c2, c3, c4, c5, _⟩ := Ae (Ab w (.cells #[v0, v1, v2, v3, v4, v5] T))
 rw [AS, Nat.zero_add]
 match j, h with
 | 0, h => cases h; exact c0
 | 1, h => cases h; exact c1
 | 2, h => cases h; exact c2
 | 3, h => cases h; exact c3
 | 4, h => cases h; exact c4
 | 5, h => cases h; exact c5
set_option maxHeartbeats 4000000 in
set_option maxRecDepth 100000 in
theorem FY (S : Nat → Prop) (fs : List (VT → Rz)) (a : Option Addr) (c : Nat) (row : VT) (r0 r1 r2 r3 r4 r5 : Value) (w : World) (hN : NodeRow S w fs a) (hlen : fs.length ≤ 1000) (hL : Laid w) (hr : RV w 0 w.heap.size row [r0, r1, r2, r3, r4, r5]) :
  Calls Tryz.prog 209 #[.slice a fs.length c, .agg #[r0, r1, r2, r3, r4, r5]] w (AllPost w (AV (fs.map fun f => f row))) := by
 have HR := Lib.hid hr
 have HN := Lib.hid hN
 have HL := Lib.hid hL
 obtain ⟨kr, br, nr, sr, lr, fr, ar1, cr1, ar2, cr2, er', er, _⟩ := RV.mk_parts hr
 simp only [List.cons.injEq, and_true] at er
 obtain ⟨rfl, rfl, rfl, rfl, rfl, rfl⟩ := er
 clear hr hN hL er'
 have hb0 := Ad (w := w) (.cells #[.int .u8 kr, .bool br, .int .i64 nr, .string sr, .slice ar1 lr.len cr1, .slice ar2 fr.len cr2] 27)
 have hx0 := Ab w (.cells #[.int .u8 kr, .bool br, .int .i64 nr, .string sr, .slice ar1 lr.len cr1, .slice ar2 fr.len cr2] 27)
 have HAT0 : Hid (AllAt w (w.alloc (.cells #[.int .u8 kr, .bool br, .int .i64 nr, .string sr, .slice ar1 lr.len cr1, .slice ar2 fr.len cr2] 27)) [] (.slice none 0 0) [.int .u8 kr, .bool br, .int .i64 nr, .string sr, .slice ar1 lr.len cr1, .slice ar2 fr.len cr2]) := Lib.hid ⟨[], World.ownsRow_nil _ _ _ _, rfl, hb0, hx0⟩
 clear hb0 hx0
 go_enter Tryz.func209, Tryz.ntmps209
 go_wp2_with fail
 go_loopw [6, 13] (fun s6 s13 wr => ∃ (i : Nat) (vs : List VT) (v : Value), s6 = v ∧ s13 = .int .i64 i ∧ i ≤ fs.length ∧ Hid (AV ((fs.take i).map fun f => f row) = .ok vs) ∧ vs.length = i ∧ AllAt w wr vs v [.int .u8 kr, .bool br, .int .i64 nr, .string sr, .slice ar1 lr.len cr1, .slice ar2 fr.len cr2]) (fun _ s13 _ => fs.length - (intOf s13).toNat)
 case atStart => exact ⟨0, [], _, rfl, rfl, Nat.zero_le _, Lib.hid rfl, rfl, HAT0.out⟩
 case round =>
  obtain ⟨i, vs, v, e6, rfl, hil, HA, hvi, hat⟩ := hrel
  have e6 := e6.symm
  subst e6
  have HAT := Lib.hid hat
  obtain ⟨lw, lo⟩ := hat.old
  obtain ⟨cs, hO, hV, hB, hX⟩ := hat
  have HO := Lib.hid hO
  have HV := Lib.hid hV
  have HB := Lib.hid hB
  have HX := Lib.hid hX
  have HLO := Lib.hid lo
  obtain ⟨p0, p1, p2, p3, p4, p5, p6⟩ := Ae hX
  have HVI := Lib.hid hvi
  clear HAT0 hvi hO hV hB hX lo
  by_cases hlt : i < fs.length
  · rcases (HN.out.later (Later.of_below HB.out)) with h0 | ⟨b, o, rfl, hbs, hS, hc⟩
    · omega
    obtain ⟨nv, hnv, hnode⟩ := hc i hlt
    obtain ⟨T, x, fn, rfl, ⟨m2, m3⟩, hcall⟩ := hnode
    have HC := Lib.hid (hcall wr row _ _ _ _ _ _ ⟨Nat.le_refl _, fun _ _ _ => rfl⟩ (HL.out.below HB.out) (HR.out.grow HB.out))
    have hstep := Jk (fs[i] row) ((fs.take i).map fun f => f row)
    have htk : (fs.take (i + 1)).map (fun f => f row) = (fs.take i).map (fun f => f row) ++ [fs[i] row] := by rw [List.take_succ_eq_append_getElem hlt, List.map_append]; rfl
    have hstop := fun e h => Jl ((fs.drop (i + 1)).map fun f => f row) e ((fs.take (i + 1)).map fun f => f row) h
    rw [← List.map_append, List.take_append_drop] at hstop
    rw [← htk, HA.out] at hstep
    obtain ⟨⟨⟨k, bb, n, s, l, f⟩, wy⟩, hrz⟩ : ∃ r : Rz, fs[i] row = r := ⟨_, rfl⟩
    rw [hrz] at HC hstep
    clear hc hcall htk hrz
    by_cases hw : wy = 0
    · subst hw
      have HST : Hid (AV ((fs.take (i + 1)).map fun f => f row) = .ok (vs ++ [.mk k bb n s l f])) := Lib.hid (by rw [hstep]; rfl)
      clear hstep hstop
      go_upto_region 6 with ((with_reducible refine (HC.out).mono ?_); intro e w7 hev; obtain ⟨hb7, a1, c1, a2, c2, rfl, hv7⟩ := hev.parts; have HB7 := Lib.hid hb7; have HV7 := Lib.hid hv7; clear hev hb7 hv7)
      have hx8 := Ab w7 (.cells #[.int .u8 k, .bool bb, .int .i64 n, .string s, .slice a1 l.len c1, .slice a2 f.len c2] 27)
      have hb8 := Ad (w := w7) (.cells #[.int .u8 k, .bool bb, .int .i64 n, .string s, .slice a1 l.len c1, .slice a2 f.len c2] 27)
      have hown8 := AM (AM HO.out HB7.out) hb8
      have s7 := HB7.out.size
      generalize hw8 : w7.alloc (.cells #[.int .u8 k, .bool bb, .int .i64 n, .string s, .slice a1 l.len c1, .slice a2 f.len c2] 27) = w8 at *
      have hs8 : w8.heap.size = w7.heap.size + 1 := by rw [← hw8]; simp
      have HB8 := Lib.hid hb8
      have HS8 := Lib.hid hs8
      have HOW8 := Lib.hid hown8
      obtain ⟨q0, q1, q2, q3, q4, q5, q6⟩ := Ae hx8
      obtain ⟨i0, hi0, hz00, hz1, hz2⟩ := info_parts Tryz.infoV
      clear hw8 hb8 hs8 hx8 hown8 p0 p1 p2 p3 p4 p5 p6
      have E1 : Hid (vs.length + 1 ≤ maxLen) := Lib.hid (by have := HVI.out; unfold maxLen; omega)
      have E2 : Hid ((vs.length + 1) * 80 ≤ 140737488355328) := Lib.hid (by have := HVI.out; omega)
      have E3 : Hid (w.heap.size + 1 ≤ (w8.alloc (.cells #[.int .u8 k, .bool bb, .int .i64 n, .string s, .slice a1 l.len c1, .slice a2 f.len c2] 27)).heap.size) := Lib.hid (by have := HS8.out; simp; omega)
      have E5 : Hid (∀ u ∈ ([.int .u8 k, .bool bb, .int .i64 n, .string s, .slice a1 l.len c1, .slice a2 f.len c2] : List Value), u.oneCell' = true) := Lib.hid (by intro u hu; simp only [List.mem_cons, List.not_mem_nil, or_false] at hu; rcases hu with rfl | rfl | rfl | rfl | rfl | rfl <;> rfl)
      go_wp2_with (at_builtin; refine wpList_append_lies _ rfl _ _ 24 rfl (w.heap.size + 1) 27 i0 (.agg #[.int .u8 0, .bool false, .int .i64 0, .string ⟨#[]⟩, .slice none 0 0, .slice none 0 0]) 6 80 Tryz.underlying24 hi0 hz00 hz1 hz2 rfl (by decide) v vs.length cs (by rfl) (HOW8.out.alloc _) ⟨w8.heap.size, 0, none⟩ 1 1 [.int .u8 k, .bool bb, .int .i64 n, .string s, .slice a1 l.len c1, .slice a2 f.len c2] (by rfl) rfl (Jg w8 _ _ _ _ _ _ _) E5.out (by decide) E1.out E2.out E3.out (w8.heap.size + 1) (by simp) ?_; intro g' cap w2 hown hgrow hat2 hlt2; have HNX := Lib.hid (Pb HO.out HV.out HB.out HX.out HB7.out HV7.out (Aa HB8.out HB8.out.size (Ad _)) hgrow hown (hat2.imp id (fun h => by have := HS8.out; omega))); clear hown hgrow hat2 hlt2)
      go_roundw
      case rel => exact ⟨i + 1, vs ++ [.mk k bb n s l f], _, rfl, by go_num, by omega, HST, by have := HVI.out; simp; omega, HNX.out⟩
      case measure => simp [intOf]; omega
    · have HST : Hid (AV (fs.map fun f => f row) = .error wy) := Lib.hid (hstop wy (by rw [hstep]; exact if_pos hw))
      have hw2 : (wy != 0) = true := by simpa using hw
      clear hstep hstop
      go_upto_region 6 with ((with_reducible refine (HC.out).mono ?_); intro e w7 hev; obtain ⟨hb7, a1, c1, a2, c2, rfl, hv7⟩ := hev.parts; have HB7 := Lib.hid hb7; have HV7 := Lib.hid hv7; clear hev hb7 hv7)
      have HB8 := Lib.hid (Aa HB7.out HB7.out.size (Ad (w := w7) (.cells #[.int .u8 k, .bool bb, .int .i64 n, .string s, .slice a1 l.len c1, .slice a2 f.len c2] 27)))
      generalize w7.alloc (.cells #[.int .u8 k, .bool bb, .int .i64 n, .string s, .slice a1 l.len c1, .slice a2 f.len c2] 27) = w8 at *
      clear p0 p1 p2 p3 p4 p5 p6
      go_wp2_with fail
      go_ret2
      rw [HST.out]
      exact ⟨Aa HB.out HB.out.size HB8.out, rfl⟩
  · have hfull : fs.take i = fs := List.take_of_length_le (by omega)
    have hA := HA.out
    rw [hfull] at hA
    have HAA := Lib.hid hA
    obtain ⟨A, c6, rfl, hl6, hm6⟩ := Bt HO.out
    clear hfull hA p0 p1 p2 p3 p4 p5 p6
    go_wp2_with fail
    go_ret2
    rw [HAA.out]
    refine ⟨HB.out, A, c6, rfl, hl6, ?_⟩
    rcases HO.out.2 with ⟨_, h0⟩ | ⟨g, cap, cur, e, hBg, hg, h1, h2, hcs, htk⟩
    · exact Or.inl h0
    · cases e
      refine Or.inr ⟨g, rfl, by omega, lt_of_block hg, ?_⟩
      have hr := Vals.rows (g := g) vs cs 0 HV.out (fun j hj => by
       rw [Nat.zero_add]
       exact HO.out.cellAt j (by rw [← Vals.length _ _ HV.out]; exact hj))
      exact RQL.to_rv (fun b hb => ⟨by omega, hb.2.1⟩) _ _ _ hr
/- The node logic. -/
set_option maxHeartbeats 4000000 in
set_option maxRecDepth 100000 in
theorem LD (S : Nat → Prop) (o : Bool) (Ta : TypeId) (xa : Value) (Tb : TypeId) (xb : Value) (F G : VT → Rz) (row : VT) (r0 r1 r2 r3 r4 r5 : Value) (w : World) (hF : Node S w (.iface Ta xa) F) (hG : Node S w (.iface Tb xb) G) (hL : Laid w) (hr : RV w 0 w.heap.size row [r0, r1, r2, r3, r4, r5]) :
   Calls Tryz.prog 217 #[.agg #[.bool o, .iface Ta xa, .iface Tb xb], .agg #[r0, r1, r2, r3, r4, r5]] w (EvPost w (B3 o (F row) (G row))) := by
 have HA := Lib.hid (fun (w' : World) (hb : Below w.heap.size w w') => In S _ F row r0 r1 r2 r3 r4 r5 w' (hF.later (Later.of_below hb)) (hL.below hb) (hr.grow hb))
 have HB := Lib.hid (fun (w' : World) (hb : Below w.heap.size w w') => In S _ G row r0 r1 r2 r3 r4 r5 w' (hG.later (Later.of_below hb)) (hL.below hb) (hr.grow hb))
 obtain ⟨kr, br, nr, sr, lr, fr, ar1, cr1, ar2, cr2, rfl, er, _⟩ := RV.mk_parts hr
 simp only [List.cons.injEq, and_true] at er
 obtain ⟨rfl, rfl, rfl, rfl, rfl, rfl⟩ := er
 unfold B3
 generalize A4 (F (.mk kr br nr sr lr fr)) = ra at *
 generalize A4 (G (.mk kr br nr sr lr fr)) = rb at *
 obtain ⟨⟨k, b, n, s, l, f⟩, wy⟩ := ra
 obtain ⟨⟨k', b', n', s', l', f'⟩, wy'⟩ := rb
 clear hF hG hL hr
 show Calls _ _ _ _ (EvPost w (if (wy ≠ 0 || b == o) = true then (.mk k b n s l f, wy) else if (wy' = 0 && o && !b' && k = 0) = true then (.mk k b n s l f, 0) else (.mk k' b' n' s' l' f', wy')))
 generalize hR : (if (wy ≠ 0 || b == o) = true then ((.mk k b n s l f, wy) : Rz) else if (wy' = 0 && o && !b' && k = 0) = true then (.mk k b n s l f, 0) else (.mk k' b' n' s' l' f', wy')) = R
 have HRR := Lib.hid hR
 clear hR
 have hD := Ax (w := w) (.cells #[.bool o, .iface Ta xa, .iface Tb xb] 137) (.cells #[.int .u8 kr, .bool br, .int .i64 nr, .string sr, .slice ar1 lr.len cr1, .slice ar2 fr.len cr2] 27) Ah
 have hX := Af (o := Ah) (Af (o := .cells #[.int .u8 kr, .bool br, .int .i64 nr, .string sr, .slice ar1 lr.len cr1, .slice ar2 fr.len cr2] 27) (Ab w (.cells #[.bool o, .iface Ta xa, .iface Tb xb] 137)))
 have hY := Af (o := Ah) (Ab (w.alloc (.cells #[.bool o, .iface Ta xa, .iface Tb xb] 137)) (.cells #[.int .u8 kr, .bool br, .int .i64 nr, .string sr, .slice ar1 lr.len cr1, .slice ar2 fr.len cr2] 27))
 have hZ := Ab ((w.alloc (.cells #[.bool o, .iface Ta xa, .iface Tb xb] 137)).alloc (.cells #[.int .u8 kr, .bool br, .int .i64 nr, .string sr, .slice ar1 lr.len cr1, .slice ar2 fr.len cr2] 27)) Ah
 have ez1 : (w.alloc (.cells #[.bool o, .iface Ta xa, .iface Tb xb] 137)).heap.size = w.heap.size + 1 := by simp
 have ez2 : ((w.alloc (.cells #[.bool o, .iface Ta xa, .iface Tb xb] 137)).alloc (.cells #[.int .u8 kr, .bool br, .int .i64 nr, .string sr, .slice ar1 lr.len cr1, .slice ar2 fr.len cr2] 27)).heap.size = w.heap.size + 1 + 1 := by simp
 have ez3 : (((w.alloc (.cells #[.bool o, .iface Ta xa, .iface Tb xb] 137)).alloc (.cells #[.int .u8 kr, .bool br, .int .i64 nr, .string sr, .slice ar1 lr.len cr1, .slice ar2 fr.len cr2] 27)).alloc Ah).heap.size = w.heap.size + 1 + 1 + 1 := by simp
 rw [ez1] at hY
 rw [ez2] at hZ
 go_enter Tryz.func217, Tryz.ntmps217
 go_upto_region 1 with (fail)
 generalize ((w.alloc (.cells #[.bool o, .iface Ta xa, .iface Tb xb] 137)).alloc (.cells #[.int .u8 kr, .bool br, .int .i64 nr, .string sr, .slice ar1 lr.len cr1, .slice ar2 fr.len cr2] 27)).alloc Ah = W at *
 have HD := Lib.hid hD
 have HX := Lib.hid hX
 have HY := Lib.hid hY
 have HZ := Lib.hid hZ
 have HW := Lib.hid ez3
 obtain ⟨x0, x1, x2, x3⟩ := Ak hX
 obtain ⟨y0, y1, y2, y3, y4, y5, y6⟩ := Ae hY
 clear hD hX hY hZ ez1 ez2 ez3
 go_upto_region 2 with (go_at_call 218; refine (HA.out _ HD.out).mono ?_; intro e w7 hev; obtain ⟨hb7, a1, c1, a2, c2, rfl, hv7⟩ := hev.parts; have HX7 := Lib.hid (blk hb7 HX.out); have HY7 := Lib.hid (blk hb7 HY.out); have HZ7 := Lib.hid (blk hb7 HZ.out); have HB7 := Lib.hid (Aa HD.out HD.out.size hb7); have HV7 := Lib.hid hv7; have HS7 := Lib.hid hb7.size; clear hev hb7 hv7)
 clear x0 x1 x2 x3 y0 y1 y2 y3 y4 y5 y6
 have hb8 := Ad (w := w7) (.cells #[.int .u8 k, .bool b, .int .i64 n, .string s, .slice a1 l.len c1, .slice a2 f.len c2] 27)
 have hp8 := Ab w7 (.cells #[.int .u8 k, .bool b, .int .i64 n, .string s, .slice a1 l.len c1, .slice a2 f.len c2] 27)
 generalize w7.alloc (.cells #[.int .u8 k, .bool b, .int .i64 n, .string s, .slice a1 l.len c1, .slice a2 f.len c2] 27) = w8 at *
 have HX8 := Lib.hid (blk hb8 HX7.out)
 have HY8 := Lib.hid (blk hb8 HY7.out)
 have HZ8 := Lib.hid (blk hb8 HZ7.out)
 have HB8 := Lib.hid (Aa HB7.out HB7.out.size hb8)
 have HP8 := Lib.hid hp8
 have HK8 := Lib.hid hb8
 have hs7 : w.heap.size + 1 + 1 + 1 ≤ w7.heap.size := by rw [← HW.out]; exact HS7.out
 have l8 : w7.heap.size < w8.heap.size := lt_of_block hp8
 clear hb8 hp8 HX7 HY7 HZ7 HB7 HX HY HZ HA
 obtain ⟨x0, x1, x2, x3⟩ := Ak HX8.out
 obtain ⟨y0, y1, y2, y3, y4, y5, y6⟩ := Ae HY8.out
 obtain ⟨z0, z1, z2, z3, z4, z5, z6⟩ := Ae HZ8.out
 obtain ⟨p0, p1, p2, p3, p4, p5, p6⟩ := Ae HP8.out
 by_cases hw : wy = 0
 · subst hw
   cases hbo : (b == o) with
   | true =>
     obtain rfl : R = (.mk k b n s l f, 0) := by rw [← HRR.out]; simp [hbo]
     go_wp2_with fail
     refine bodyPost_ret (v := .tuple #[.agg #[.int .u8 k, .bool b, .int .i64 n, .string s, .slice a1 l.len c1, .slice a2 f.len c2], .int .i64 0]) (by simp [results, Tryz.results217, go_sem, Ai, z0, z1, z2, z3, z4, z5]) rfl ?_
     exact ⟨Ag (by omega) [_, _, _, _, _, _] 0 _ HB8.out, _, _, _, _, _, _, rfl, RV.above (us := [_, _, _, _, _, _]) HV7.out (by rw [HW.out]; omega) (by rw [HW.out]; omega) HK8.out⟩
   | false =>
     go_upto_region 5 with (go_at_call 218; refine (HB.out _ HB8.out).mono ?_; intro e w9 hev; obtain ⟨hb9, d1, e1, d2, e2, rfl, hv9⟩ := hev.parts; have HX9 := Lib.hid (blk hb9 HX8.out); have HZ9 := Lib.hid (blk hb9 HZ8.out); have HP9 := Lib.hid (blk hb9 HP8.out); have HB9 := Lib.hid (Aa HB8.out HB8.out.size hb9); have HK9 := Lib.hid (Aa HK8.out HK8.out.size hb9); have HV9 := Lib.hid hv9; have HS9 := Lib.hid hb9.size; clear hev hb9 hv9)
     clear x0 x1 x2 x3 y0 y1 y2 y3 y4 y5 y6 z0 z1 z2 z3 z4 z5 z6 p0 p1 p2 p3 p4 p5 p6
     have hb10 := Ad (w := w9) (.cells #[.int .u8 k', .bool b', .int .i64 n', .string s', .slice d1 l'.len e1, .slice d2 f'.len e2] 27)
     have hq10 := Ab w9 (.cells #[.int .u8 k', .bool b', .int .i64 n', .string s', .slice d1 l'.len e1, .slice d2 f'.len e2] 27)
     have hs9 := HS9.out
     generalize w9.alloc (.cells #[.int .u8 k', .bool b', .int .i64 n', .string s', .slice d1 l'.len e1, .slice d2 f'.len e2] 27) = w10 at *
     have hx10 := blk hb10 HX9.out
     have hz10 := blk hb10 HZ9.out
     have hp10 := blk hb10 HP9.out
     have HBX := Lib.hid (Aa HB9.out HB9.out.size hb10)
     have HKX := Lib.hid (Aa HK9.out HK9.out.size hb10)
     have HK10 := Lib.hid hb10
     have l10 : w9.heap.size < w10.heap.size := lt_of_block hq10
     obtain ⟨x0, x1, x2, x3⟩ := Ak hx10
     obtain ⟨z0, z1, z2, z3, z4, z5, z6⟩ := Ae hz10
     obtain ⟨p0, p1, p2, p3, p4, p5, p6⟩ := Ae hp10
     obtain ⟨q0, q1, q2, q3, q4, q5, q6⟩ := Ae hq10
     clear hb10 hq10 hx10 hz10 hp10 HX9 HZ9 HP9 HB9 HK9 HX8 HY8 HZ8 HB8 HP8 HK8 HB
     by_cases hw' : wy' = 0
     · subst hw'
       cases o with
       | false =>
         obtain rfl : R = (.mk k' b' n' s' l' f', 0) := by rw [← HRR.out]; simp [hbo]
         go_wp2_with fail
         refine bodyPost_ret (v := .tuple #[.agg #[.int .u8 k', .bool b', .int .i64 n', .string s', .slice d1 l'.len e1, .slice d2 f'.len e2], .int .i64 0]) (by simp [results, Tryz.results217, go_sem, Ai, z0, z1, z2, z3, z4, z5]) rfl ?_
         exact ⟨Ag (by omega) [_, _, _, _, _, _] 0 _ HBX.out, _, _, _, _, _, _, rfl, RV.above (us := [_, _, _, _, _, _]) HV9.out (by omega) (by omega) HK10.out⟩
       | true =>
         cases b' with
         | true =>
           obtain rfl : R = (.mk k' true n' s' l' f', 0) := by rw [← HRR.out]; simp [hbo]
           go_wp2_with fail
           refine bodyPost_ret (v := .tuple #[.agg #[.int .u8 k', .bool true, .int .i64 n', .string s', .slice d1 l'.len e1, .slice d2 f'.len e2], .int .i64 0]) (by simp [results, Tryz.results217, go_sem, Ai, z0, z1, z2, z3, z4, z5]) rfl ?_
           exact ⟨Ag (by omega) [_, _, _, _, _, _] 0 _ HBX.out, _, _, _, _, _, _, rfl, RV.above (us := [_, _, _, _, _, _]) HV9.out (by omega) (by omega) HK10.out⟩
         | false =>
           by_cases hk : k = 0
           · subst hk
             obtain rfl : R = (.mk 0 b n s l f, 0) := by rw [← HRR.out]; simp [hbo]
             go_wp2_with fail
             refine bodyPost_ret (v := .tuple #[.agg #[.int .u8 0, .bool b, .int .i64 n, .string s, .slice a1 l.len c1, .slice a2 f.len c2], .int .i64 0]) (by simp [results, Tryz.results217, go_sem, Ai, z0, z1, z2, z3, z4, z5]) rfl ?_
             exact ⟨Ag (by omega) [_, _, _, _, _, _] 0 _ HBX.out, _, _, _, _, _, _, rfl, RV.above (us := [_, _, _, _, _, _]) HV7.out (by rw [HW.out]; omega) (by rw [HW.out]; omega) HKX.out⟩
           · obtain rfl : R = (.mk k' false n' s' l' f', 0) := by rw [← HRR.out]; simp [hbo, hk]
             have hk2 : (k == 0) = false := by simpa using hk
             go_wp2_with fail
             refine bodyPost_ret (v := .tuple #[.agg #[.int .u8 k', .bool false, .int .i64 n', .string s', .slice d1 l'.len e1, .slice d2 f'.len e2], .int .i64 0]) (by simp [results, Tryz.results217, go_sem, Ai, z0, z1, z2, z3, z4, z5]) rfl ?_
             exact ⟨Ag (by omega) [_, _, _, _, _, _] 0 _ HBX.out, _, _, _, _, _, _, rfl, RV.above (us := [_, _, _, _, _, _]) HV9.out (by omega) (by omega) HK10.out⟩
     · obtain rfl : R = (.mk k' b' n' s' l' f', wy') := by rw [← HRR.out]; simp [hbo, hw']
       have hw2 : (wy' == 0) = false := by simpa using hw'
       go_wp2_with fail
       all_goals
         refine bodyPost_ret (v := .tuple #[.agg #[.int .u8 k', .bool b', .int .i64 n', .string s', .slice d1 l'.len e1, .slice d2 f'.len e2], .int .i64 wy']) (by simp [results, Tryz.results217, go_sem, Ai, z0, z1, z2, z3, z4, z5]) rfl ?_
         exact ⟨Ag (by omega) [_, _, _, _, _, _] 0 _ HBX.out, _, _, _, _, _, _, rfl, RV.above (us := [_, _, _, _, _, _]) HV9.out (by omega) (by omega) HK10.out⟩
 · obtain rfl : R = (.mk k b n s l f, wy) := by rw [← HRR.out]; simp [hw]
   have hw2 : (wy != 0) = true := by simpa using hw
   have HBX := HB8
   have HKX := HK8
   go_wp2_with fail
   all_goals
     refine bodyPost_ret (v := .tuple #[.agg #[.int .u8 k, .bool b, .int .i64 n, .string s, .slice a1 l.len c1, .slice a2 f.len c2], .int .i64 wy]) (by simp [results, Tryz.results217, go_sem, Ai, z0, z1, z2, z3, z4, z5]) rfl ?_
     exact ⟨Ag (by omega) [_, _, _, _, _, _] 0 _ HBX.out, _, _, _, _, _, _, rfl, RV.above (us := [_, _, _, _, _, _]) HV7.out (by rw [HW.out]; omega) (by rw [HW.out]; omega) HKX.out⟩
end Go.Proofs.YtbemgcjckchdjaaGreatDoor
