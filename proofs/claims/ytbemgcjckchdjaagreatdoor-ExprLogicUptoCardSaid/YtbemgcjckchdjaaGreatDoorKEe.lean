import Derived.Test.YtbemgcjckchdjaaGreatDoorKEd
/- Nodes by what they come to; expr.flag. -/
namespace Go.Proofs.YtbemgcjckchdjaaGreatDoor
open Go.RowKit
set_option linter.unusedSimpArgs false
set_option linter.unusedVariables false
/-- all but what lies in S is as it was -/
def Later (S : Nat → Prop) (w w' : World) : Prop := w.heap.size ≤ w'.heap.size ∧ ∀ b, b < w.heap.size → ¬ S b → w'.heap[b]? = w.heap[b]?
theorem Later.of_below {S : Nat → Prop} {w w' : World} (h : Below w.heap.size w w') : Later S w w' := ⟨h.size, fun b hb _ => h.block b hb⟩
theorem Later.trans {S : Nat → Prop} {w w1 w2 : World} (h1 : Later S w w1) (h2 : Later S w1 w2) : Later S w w2 :=
  ⟨Nat.le_trans h1.1 h2.1, fun b hb hs => (h2.2 b (Nat.lt_of_lt_of_le hb h1.1) hs).trans (h1.2 b hb hs)⟩
/-- an interface value's method -/
def Meth (T : TypeId) (x : Value) (fn : FuncId) : Prop :=
  (∀ w, (method 393 T x "codicil/expr.eval").run Tryz.prog w = .ok (fn, x) w) ∧ (∀ (args : Array Value) (w : World), (callFunc fn args).run Tryz.prog w = .ok (.enter fn args) w)
/-- a node: what it comes to, of any row, as long as nothing but what lies in S is changed -/
def Node (S : Nat → Prop) (w : World) (v : Value) (F : VT → Rz) : Prop :=
  ∃ T x fn, v = .iface T x ∧ Meth T x fn ∧ ∀ (w' : World) (row : VT) (v0 v1 v2 v3 v4 v5 : Value), Later S w w' → Laid w' → RV w' 0 w'.heap.size row [v0, v1, v2, v3, v4, v5] → Calls Tryz.prog fn #[x, .agg #[v0, v1, v2, v3, v4, v5]] w' (EvPost w' (F row))
theorem Node.later {S : Nat → Prop} {w w1 : World} {v : Value} {F : VT → Rz} (h : Node S w v F) (hl : Later S w w1) : Node S w1 v F := by
  obtain ⟨T, x, fn, e, hm, hc⟩ := h
  exact ⟨T, x, fn, e, hm, fun w' row v0 v1 v2 v3 v4 v5 hl' => hc w' row v0 v1 v2 v3 v4 v5 (hl.trans hl')⟩
theorem EvPost.parts {w w' : World} {k : Int} {b : Bool} {n : Int} {s : ByteArray} {l : VL} {f : FL} {wy : Int} {x : Ending} (h : EvPost w (.mk k b n s l f, wy) x w') : Below w.heap.size w w' ∧ ∃ a1 c1 a2 c2, x = .returned (.tuple #[.agg #[.int .u8 k, .bool b, .int .i64 n, .string s, .slice a1 l.len c1, .slice a2 f.len c2], .int .i64 wy]) ∧
    RV w' w.heap.size w'.heap.size (.mk k b n s l f) [.int .u8 k, .bool b, .int .i64 n, .string s, .slice a1 l.len c1, .slice a2 f.len c2] := by
  obtain ⟨hb, v0, v1, v2, v3, v4, v5, e, hv⟩ := h
  obtain ⟨k', b', n', s', l', f', a1, c1, a2, c2, e1, e2, _⟩ := RV.mk_parts hv
  cases e1
  simp only [List.cons.injEq, and_true] at e2
  obtain ⟨rfl, rfl, rfl, rfl, rfl, rfl⟩ := e2
  exact ⟨hb, a1, c1, a2, c2, e, hv⟩
/-- a value whose rows lie above a box, behind stores into the box -/
theorem RV.above {w w1 : World} {t : VT} {cs : List Value} {lo lo' g o : Nat} {us : List Value} (h : RV w lo w.heap.size t cs) (hg : g < lo) (hl : lo' ≤ lo) (hb : Below w.heap.size w w1) : RV (w1.setCells g o us) lo' (w1.setCells g o us).heap.size t cs := by
  rw [setCells_size]
  have h1 : RV w1 lo w1.heap.size t cs := RV.keep (Same.of_below hb) (Nat.le_refl _) hb.size t cs h
  exact RV.keep (fun _ _ _ => rfl) hl (Nat.le_refl _) t _ (RV.mid (fun b o' hb' _ => setCells_far (by omega) _ _ _ _) (Nat.le_refl _) t _ h1)
set_option maxHeartbeats 1000000 in
set_option maxRecDepth 100000 in
theorem flag_calls (S : Nat → Prop) (v : Value) (F : VT → Rz) (row : VT) (r0 r1 r2 r3 r4 r5 : Value) (w : World) (hN : Node S w v F) (hL : Laid w) (hr : RV w 0 w.heap.size row [r0, r1, r2, r3, r4, r5]) :
    Calls Tryz.prog 218 #[v, .agg #[r0, r1, r2, r3, r4, r5]] w (EvPost w (flagR (F row))) := by
  obtain ⟨T, x, fn, rfl, ⟨m2, m3⟩, hc⟩ := hN
  have HC := Lib.hid (fun (w' : World) (hb : Below w.heap.size w w') => hc w' row r0 r1 r2 r3 r4 r5 (Later.of_below hb) (hL.below hb) (hr.grow hb))
  obtain ⟨kr, br, nr, sr, lr, fr, ar1, cr1, ar2, cr2, rfl, er, _⟩ := RV.mk_parts hr
  simp only [List.cons.injEq, and_true] at er
  obtain ⟨rfl, rfl, rfl, rfl, rfl, rfl⟩ := er
  obtain ⟨⟨⟨k, b, n, s, l, f⟩, wy⟩, hrz⟩ : ∃ r : Rz, F (.mk kr br nr sr lr fr) = r := ⟨_, rfl⟩
  rw [hrz] at HC ⊢
  clear hc hr hrz hL
  have hD0 := two_allocs (w := w) (.cells #[.int .u8 kr, .bool br, .int .i64 nr, .string sr, .slice ar1 lr.len cr1, .slice ar2 fr.len cr2] 27) zeroO
  have HZ0 := Lib.hid (show ((w.alloc (.cells #[.int .u8 kr, .bool br, .int .i64 nr, .string sr, .slice ar1 lr.len cr1, .slice ar2 fr.len cr2] 27)).alloc zeroO).heap[w.heap.size + 1]? = some zeroO from by
    have := heap_last (w.alloc (.cells #[.int .u8 kr, .bool br, .int .i64 nr, .string sr, .slice ar1 lr.len cr1, .slice ar2 fr.len cr2] 27)) zeroO
    simpa using this)
  have HD0 := Lib.hid hD0
  clear hD0
  have q : flagR (.mk k b n s l f, wy) = if wy ≠ 0 then (nullV, wy) else if 1 < k then (nullV, 5) else (.mk k b n s l f, wy) := rfl
  rw [q]
  clear q
  by_cases hw : wy = 0
  · subst hw
    rw [if_neg (by simp)]
    by_cases hk : 1 < k
    · rw [if_pos hk]
      have hk' : decide (1 < k) = true := by simpa using hk
      go_enter Tryz.func218, Tryz.ntmps218
      go_upto_region 2 with ((with_reducible refine (HC.out _ HD0.out).mono ?_); intro e w7 hev; obtain ⟨hb7, a1, c1, a2, c2, rfl, hv7⟩ := hev.parts; have HZ7 := Lib.hid (blk hb7 HZ0.out); have HB7 := Lib.hid (below_call0 HD0.out HD0.out.size hb7); have HV7 := Lib.hid hv7; have HS7 := Lib.hid hb7.size; clear hb7 hv7 hev)
      have l7 := lt_of_block HZ7.out
      have hb8 := below_new (w := w7) (.cells #[.int .u8 k, .bool b, .int .i64 n, .string s, .slice a1 l.len c1, .slice a2 f.len c2] 27)
      have hx8 := heap_last w7 (.cells #[.int .u8 k, .bool b, .int .i64 n, .string s, .slice a1 l.len c1, .slice a2 f.len c2] 27)
      have hs7 : w.heap.size + 2 ≤ w7.heap.size := by simpa using HS7.out
      have hz8 := blk hb8 HZ7.out
      have HB8 := Lib.hid (below_call0 HB7.out HB7.out.size hb8)
      generalize w7.alloc (.cells #[.int .u8 k, .bool b, .int .i64 n, .string s, .slice a1 l.len c1, .slice a2 f.len c2] 27) = w8 at *
      have HS8 := HS7
      have HZ8 := Lib.hid hz8
      obtain ⟨z0, z1, z2, z3, z4, z5, z6⟩ := cells6 hz8
      obtain ⟨p0, p1, p2, p3, p4, p5, p6⟩ := cells6 hx8
      have l8 := lt_of_block hz8
      have HB9 := Lib.hid hb8
      clear hb8 hx8 hz8 HZ7 HB7
      go_wp2_with fail
      refine bodyPost_ret (v := .tuple #[zeroV, .int .i64 5]) (by simp [results, Tryz.results218, go_sem, cell_set_same, z0, z1, z2, z3, z4, z5]) rfl ?_
      exact ev_null (setCells_below (Nat.le_succ _) [_, _, _, _, _, _] 0 _ HB8.out)
    · rw [if_neg hk]
      have hk' : decide (1 < k) = false := by simpa using hk
      go_enter Tryz.func218, Tryz.ntmps218
      go_upto_region 2 with ((with_reducible refine (HC.out _ HD0.out).mono ?_); intro e w7 hev; obtain ⟨hb7, a1, c1, a2, c2, rfl, hv7⟩ := hev.parts; have HZ7 := Lib.hid (blk hb7 HZ0.out); have HB7 := Lib.hid (below_call0 HD0.out HD0.out.size hb7); have HV7 := Lib.hid hv7; have HS7 := Lib.hid hb7.size; clear hb7 hv7 hev)
      have l7 := lt_of_block HZ7.out
      have hb8 := below_new (w := w7) (.cells #[.int .u8 k, .bool b, .int .i64 n, .string s, .slice a1 l.len c1, .slice a2 f.len c2] 27)
      have hx8 := heap_last w7 (.cells #[.int .u8 k, .bool b, .int .i64 n, .string s, .slice a1 l.len c1, .slice a2 f.len c2] 27)
      have hs7 : w.heap.size + 2 ≤ w7.heap.size := by simpa using HS7.out
      have hz8 := blk hb8 HZ7.out
      have HB8 := Lib.hid (below_call0 HB7.out HB7.out.size hb8)
      generalize w7.alloc (.cells #[.int .u8 k, .bool b, .int .i64 n, .string s, .slice a1 l.len c1, .slice a2 f.len c2] 27) = w8 at *
      have HS8 := HS7
      have HZ8 := Lib.hid hz8
      obtain ⟨z0, z1, z2, z3, z4, z5, z6⟩ := cells6 hz8
      obtain ⟨p0, p1, p2, p3, p4, p5, p6⟩ := cells6 hx8
      have l8 := lt_of_block hz8
      have HB9 := Lib.hid hb8
      clear hb8 hx8 hz8 HZ7 HB7
      go_wp2_with fail
      refine bodyPost_ret (v := .tuple #[.agg #[.int .u8 k, .bool b, .int .i64 n, .string s, .slice a1 l.len c1, .slice a2 f.len c2], .int .i64 0]) (by simp [results, Tryz.results218, go_sem, cell_set_same, z0, z1, z2, z3, z4, z5]) rfl ?_
      exact ⟨setCells_below (Nat.le_succ _) [_, _, _, _, _, _] 0 _ HB8.out, _, _, _, _, _, _, rfl, RV.above (us := [_, _, _, _, _, _]) HV7.out (by simp) (by simp; omega) HB9.out⟩
  · rw [if_pos hw]
    have hw' : (wy == 0) = false := by simpa using hw
    have hw2 : (wy != 0) = true := by simpa using hw
    go_enter Tryz.func218, Tryz.ntmps218
    go_upto_region 2 with ((with_reducible refine (HC.out _ HD0.out).mono ?_); intro e w7 hev; obtain ⟨hb7, a1, c1, a2, c2, rfl, hv7⟩ := hev.parts; have HZ7 := Lib.hid (blk hb7 HZ0.out); have HB7 := Lib.hid (below_call0 HD0.out HD0.out.size hb7); have HV7 := Lib.hid hv7; have HS7 := Lib.hid hb7.size; clear hb7 hv7 hev)
    have l7 := lt_of_block HZ7.out
    have hb8 := below_new (w := w7) (.cells #[.int .u8 k, .bool b, .int .i64 n, .string s, .slice a1 l.len c1, .slice a2 f.len c2] 27)
    have hx8 := heap_last w7 (.cells #[.int .u8 k, .bool b, .int .i64 n, .string s, .slice a1 l.len c1, .slice a2 f.len c2] 27)
    have hs7 : w.heap.size + 2 ≤ w7.heap.size := by simpa using HS7.out
    have hz8 := blk hb8 HZ7.out
    have HB8 := Lib.hid (below_call0 HB7.out HB7.out.size hb8)
    generalize w7.alloc (.cells #[.int .u8 k, .bool b, .int .i64 n, .string s, .slice a1 l.len c1, .slice a2 f.len c2] 27) = w8 at *
    have HS8 := HS7
    have HZ8 := Lib.hid hz8
    obtain ⟨z0, z1, z2, z3, z4, z5, z6⟩ := cells6 hz8
    obtain ⟨p0, p1, p2, p3, p4, p5, p6⟩ := cells6 hx8
    have l8 := lt_of_block hz8
    have HB9 := Lib.hid hb8
    clear hb8 hx8 hz8 HZ7 HB7
    go_wp2_with fail
    refine bodyPost_ret (v := .tuple #[zeroV, .int .i64 wy]) (by simp [results, Tryz.results218, go_sem, cell_set_same, z0, z1, z2, z3, z4, z5]) rfl ?_
    exact ev_null (setCells_below (Nat.le_succ _) [_, _, _, _, _, _] 0 _ HB8.out)
end Go.Proofs.YtbemgcjckchdjaaGreatDoor
/- The nodes constant and path. -/
namespace Go.Proofs.YtbemgcjckchdjaaGreatDoor
open Go.RowKit
set_option linter.unusedSimpArgs false
set_option linter.unusedVariables false
theorem meth_constant (x : Value) : Meth 121 x 207 := ⟨fun w => by kernel_rfl, fun args w => Tryz.call207 args w⟩
theorem meth_path (x : Value) : Meth 182 x 241 := ⟨fun w => by kernel_rfl, fun args w => Tryz.call241 args w⟩
theorem meth_maker (x : Value) : Meth 135 x 208 := ⟨fun w => by kernel_rfl, fun args w => Tryz.call208 args w⟩
theorem meth_operator (x : Value) : Meth 140 x 219 := ⟨fun w => by kernel_rfl, fun args w => Tryz.call219 args w⟩
theorem meth_logic (x : Value) : Meth 137 x 217 := ⟨fun w => by kernel_rfl, fun args w => Tryz.call217 args w⟩
set_option maxHeartbeats 1000000 in
set_option maxRecDepth 100000 in
theorem constant_calls (k : Int) (b : Bool) (n : Int) (s : ByteArray) (row : VT) (r0 r1 r2 r3 r4 r5 : Value) (w : World) (hr : RV w 0 w.heap.size row [r0, r1, r2, r3, r4, r5]) (hv : ∀ (w' : World) lo hi, RV w' lo hi (.mk k b n s .nil .nil) [.int .u8 k, .bool b, .int .i64 n, .string s, .slice none 0 0, .slice none 0 0]) :
    Calls Tryz.prog 207 #[.agg #[.int .u8 k, .bool b, .int .i64 n, .string s, .slice none 0 0, .slice none 0 0], .agg #[r0, r1, r2, r3, r4, r5]] w (EvPost w (.mk k b n s .nil .nil, 0)) := by
  obtain ⟨kr, br, nr, sr, lr, fr, ar1, cr1, ar2, cr2, rfl, er, _⟩ := RV.mk_parts hr
  simp only [List.cons.injEq, and_true] at er
  obtain ⟨rfl, rfl, rfl, rfl, rfl, rfl⟩ := er
  have HV := Lib.hid hv
  clear hr hv
  go_enter Tryz.func207, Tryz.ntmps207
  go_wp2_with fail
  refine bodyPost_ret (v := .tuple #[.agg #[.int .u8 k, .bool b, .int .i64 n, .string s, .slice none 0 0, .slice none 0 0], .int .i64 0]) (by simp [results, Tryz.results207, go_sem]) rfl ?_
  exact ⟨three_allocs _ _ _, _, _, _, _, _, _, rfl, HV.out _ _ _⟩
/-- a constant without rows is a node -/
theorem constant_node (S : Nat → Prop) (w : World) (k : Int) (b : Bool) (n : Int) (s : ByteArray) (hv : ∀ (w' : World) lo hi, RV w' lo hi (.mk k b n s .nil .nil) [.int .u8 k, .bool b, .int .i64 n, .string s, .slice none 0 0, .slice none 0 0]) :
    Node S w (.iface 121 (.agg #[.int .u8 k, .bool b, .int .i64 n, .string s, .slice none 0 0, .slice none 0 0])) (fun _ => (.mk k b n s .nil .nil, 0)) :=
  ⟨_, _, _, rfl, meth_constant _, fun w' row v0 v1 v2 v3 v4 v5 _ _ hr => constant_calls k b n s row v0 v1 v2 v3 v4 v5 w' hr hv⟩
set_option maxHeartbeats 1000000 in
set_option maxRecDepth 100000 in
theorem path_calls' (names : List ByteArray) (a : Option Addr) (c : Nat) (row : VT) (r0 r1 r2 r3 r4 r5 : Value) (w : World) (hr : RV w 0 w.heap.size row [r0, r1, r2, r3, r4, r5]) (hL : Laid w) (hlen : names.length ≤ LIM) (hsz : ∀ p ∈ names, p.size ≤ LIM)
    (hp : names.length = 0 ∨ ∃ b o, a = some ⟨b, o, none⟩ ∧ b < w.heap.size ∧ ∀ i, i < names.length → w.cell? ⟨b, o + i, none⟩ = some (.string (names.getD i ⟨#[]⟩))) :
    Calls Tryz.prog 241 #[.agg #[.slice a names.length c], .agg #[r0, r1, r2, r3, r4, r5]] w (EvPost w ((getV row names).getD nullV, 0)) := by
  have HG := Lib.hid (fun (w' : World) (hb : Below w.heap.size w w') => Get_any row names w' [r0, r1, r2, r3, r4, r5] w'.heap.size a c (hr.grow hb) (Nat.le_refl _) (hL.below hb) hlen hsz (by
    rcases hp with h | ⟨b, o, e, hlt, hc⟩
    · exact Or.inl h
    · exact Or.inr ⟨b, o, e, Nat.lt_of_lt_of_le hlt hb.size, fun i hi => keepC hb (hc i hi)⟩))
  obtain ⟨kr, br, nr, sr, lr, fr, ar1, cr1, ar2, cr2, rfl, er, _⟩ := RV.mk_parts hr
  simp only [List.cons.injEq, and_true] at er
  obtain ⟨rfl, rfl, rfl, rfl, rfl, rfl⟩ := er
  generalize getV (.mk kr br nr sr lr fr) names = r at *
  generalize names.length = m at *
  clear hr hL hlen hsz hp
  have hD := three_allocs (w := w) (.cells #[.slice a m c] 182) (.cells #[.int .u8 kr, .bool br, .int .i64 nr, .string sr, .slice ar1 lr.len cr1, .slice ar2 fr.len cr2] 27) zeroO
  have HZ : Hid ((((w.alloc (.cells #[.slice a m c] 182)).alloc (.cells #[.int .u8 kr, .bool br, .int .i64 nr, .string sr, .slice ar1 lr.len cr1, .slice ar2 fr.len cr2] 27)).alloc zeroO).heap[w.heap.size + 1 + 1]? = some zeroO) := Lib.hid (by
    have := heap_last ((w.alloc (.cells #[.slice a m c] 182)).alloc (.cells #[.int .u8 kr, .bool br, .int .i64 nr, .string sr, .slice ar1 lr.len cr1, .slice ar2 fr.len cr2] 27)) zeroO
    simpa using this)
  have HD := Lib.hid hD
  clear hD
  go_enter Tryz.func241, Tryz.ntmps241
  cases r with
  | none =>
    go_upto_region 2 with (go_at_call 50; refine (HG.out _ HD.out).mono ?_; rintro e w7 ⟨hb7, rfl⟩; have HZ7 := Lib.hid (blk hb7 HZ.out); have HB7 := Lib.hid (below_call0 HD.out HD.out.size hb7); clear hb7)
    have l7 := lt_of_block HZ7.out
    have hb8 := below_new (w := w7) zeroO
    have hx8 := heap_last w7 zeroO
    have hz8 := blk hb8 HZ7.out
    have HB8 := Lib.hid (below_call0 HB7.out HB7.out.size hb8)
    generalize w7.alloc zeroO = w8 at *
    obtain ⟨z0, z1, z2, z3, z4, z5, z6⟩ := cells6 hz8
    obtain ⟨p0, p1, p2, p3, p4, p5, p6⟩ := cells6 hx8
    clear hb8 hx8 hz8
    go_wp2_with fail
    refine bodyPost_ret (v := .tuple #[zeroV, .int .i64 0]) (by simp [results, Tryz.results241, go_sem, cell_set_same, z0, z1, z2, z3, z4, z5]) rfl ?_
    exact ev_null (setCells_below (Nat.le_succ_of_le (Nat.le_succ _)) [_, _, _, _, _, _] 0 _ HB8.out)
  | some t =>
    go_upto_region 2 with (go_at_call 50; refine (HG.out _ HD.out).mono ?_; rintro e w7 ⟨hb7, k, b, n, s, a1, l1, c1, a2, l2, c2, rfl, hv7⟩; have HZ7 := Lib.hid (blk hb7 HZ.out); have HB7 := Lib.hid (below_call0 HD.out HD.out.size hb7); have HV7 := Lib.hid hv7; have HS7 := Lib.hid hb7.size; clear hb7 hv7)
    have l7 := lt_of_block HZ7.out
    have hb8 := below_new (w := w7) (.cells #[.int .u8 k, .bool b, .int .i64 n, .string s, .slice a1 l1 c1, .slice a2 l2 c2] 27)
    have hx8 := heap_last w7 (.cells #[.int .u8 k, .bool b, .int .i64 n, .string s, .slice a1 l1 c1, .slice a2 l2 c2] 27)
    have hz8 := blk hb8 HZ7.out
    have HB8 := Lib.hid (below_call0 HB7.out HB7.out.size hb8)
    have HB9 := Lib.hid hb8
    generalize w7.alloc (.cells #[.int .u8 k, .bool b, .int .i64 n, .string s, .slice a1 l1 c1, .slice a2 l2 c2] 27) = w8 at *
    obtain ⟨z0, z1, z2, z3, z4, z5, z6⟩ := cells6 hz8
    obtain ⟨p0, p1, p2, p3, p4, p5, p6⟩ := cells6 hx8
    clear hb8 hx8 hz8
    go_wp2_with fail
    refine bodyPost_ret (v := .tuple #[.agg #[.int .u8 k, .bool b, .int .i64 n, .string s, .slice a1 l1 c1, .slice a2 l2 c2], .int .i64 0]) (by simp [results, Tryz.results241, go_sem, cell_set_same, z0, z1, z2, z3, z4, z5]) rfl ?_
    exact ⟨setCells_below (Nat.le_succ_of_le (Nat.le_succ _)) [_, _, _, _, _, _] 0 _ HB8.out, _, _, _, _, _, _, rfl, RV.above (us := [_, _, _, _, _, _]) HV7.out (by simp) (by simp; omega) HB9.out⟩
end Go.Proofs.YtbemgcjckchdjaaGreatDoor
/- Values whose rows lie in a set of blocks; rows of values that a call makes. -/
namespace Go.Proofs.YtbemgcjckchdjaaGreatDoor
open Go.RowKit
set_option linter.unusedSimpArgs false
set_option linter.unusedVariables false
mutual
/-- six cells that read as a value; all rows that it leads to lie in blocks of Q -/
def RQ (w : World) (Q : Nat → Prop) : VT → List Value → Prop
  | .mk k b n s l f, cs => ∃ a1 c1 a2 c2, cs = [.int .u8 k, .bool b, .int .i64 n, .string s, .slice a1 l.len c1, .slice a2 f.len c2] ∧
      (0 ≤ k ∧ k ≤ 255) ∧ I64 n ∧ s.size ≤ LIM ∧ l.len ≤ LIM ∧ f.len ≤ LIM ∧ l.len ≤ c1 ∧ f.len ≤ c2 ∧
      (l.len = 0 ∨ ∃ b o, a1 = some ⟨b, o, none⟩ ∧ Q b ∧ RQL w Q l b o) ∧
      (f.len = 0 ∨ ∃ b o, a2 = some ⟨b, o, none⟩ ∧ Q b ∧ RQF w Q f b o)
def RQL (w : World) (Q : Nat → Prop) : VL → Nat → Nat → Prop
  | .nil, _, _ => True
  | .cons t r, b, o => (∃ v0 v1 v2 v3 v4 v5, w.cell? ⟨b, o, none⟩ = some v0 ∧ w.cell? ⟨b, o + 1, none⟩ = some v1 ∧ w.cell? ⟨b, o + 2, none⟩ = some v2 ∧ w.cell? ⟨b, o + 3, none⟩ = some v3 ∧ w.cell? ⟨b, o + 4, none⟩ = some v4 ∧ w.cell? ⟨b, o + 5, none⟩ = some v5 ∧ RQ w Q t [v0, v1, v2, v3, v4, v5]) ∧ RQL w Q r b (o + 6)
def RQF (w : World) (Q : Nat → Prop) : FL → Nat → Nat → Prop
  | .nil, _, _ => True
  | .cons s t r, b, o => (w.cell? ⟨b, o, none⟩ = some (.string s) ∧ s.size ≤ LIM ∧ ∃ v0 v1 v2 v3 v4 v5, w.cell? ⟨b, o + 1, none⟩ = some v0 ∧ w.cell? ⟨b, o + 2, none⟩ = some v1 ∧ w.cell? ⟨b, o + 3, none⟩ = some v2 ∧ w.cell? ⟨b, o + 4, none⟩ = some v3 ∧ w.cell? ⟨b, o + 5, none⟩ = some v4 ∧ w.cell? ⟨b, o + 6, none⟩ = some v5 ∧ RQ w Q t [v0, v1, v2, v3, v4, v5]) ∧ RQF w Q r b (o + 7)
end
/-- what lies in Q reads as it did -/
def SameQ (Q : Nat → Prop) (w w' : World) : Prop := ∀ b o, Q b → w'.cell? ⟨b, o, none⟩ = w.cell? ⟨b, o, none⟩
mutual
theorem RQ.keep {w w' : World} {Q Q' : Nat → Prop} (hs : SameQ Q w w') (hq : ∀ b, Q b → Q' b) : ∀ (t : VT) (cs : List Value), RQ w Q t cs → RQ w' Q' t cs
  | .mk k b n s l f, cs, h => by
    unfold RQ at h ⊢
    obtain ⟨a1, c1, a2, c2, e, hk, hn, hsz, hl, hf, hc1, hc2, hL, hF⟩ := h
    refine ⟨a1, c1, a2, c2, e, hk, hn, hsz, hl, hf, hc1, hc2, ?_, ?_⟩
    · rcases hL with h0 | ⟨b', o, rfl, hb, hr⟩
      · exact Or.inl h0
      · exact Or.inr ⟨b', o, rfl, hq _ hb, RQL.keep hs hq l b' o hb hr⟩
    · rcases hF with h0 | ⟨b', o, rfl, hb, hr⟩
      · exact Or.inl h0
      · exact Or.inr ⟨b', o, rfl, hq _ hb, RQF.keep hs hq f b' o hb hr⟩
theorem RQL.keep {w w' : World} {Q Q' : Nat → Prop} (hs : SameQ Q w w') (hq : ∀ b, Q b → Q' b) : ∀ (l : VL) (b o : Nat), Q b → RQL w Q l b o → RQL w' Q' l b o
  | .nil, _, _, _, _ => by unfold RQL; trivial
  | .cons t r, b, o, hb, h => by
    unfold RQL at h ⊢
    obtain ⟨⟨v0, v1, v2, v3, v4, v5, e0, e1, e2, e3, e4, e5, hv⟩, hr⟩ := h
    exact ⟨⟨v0, v1, v2, v3, v4, v5, (hs _ _ hb).trans e0, (hs _ _ hb).trans e1, (hs _ _ hb).trans e2, (hs _ _ hb).trans e3, (hs _ _ hb).trans e4, (hs _ _ hb).trans e5, RQ.keep hs hq t _ hv⟩, RQL.keep hs hq r b (o + 6) hb hr⟩
theorem RQF.keep {w w' : World} {Q Q' : Nat → Prop} (hs : SameQ Q w w') (hq : ∀ b, Q b → Q' b) : ∀ (f : FL) (b o : Nat), Q b → RQF w Q f b o → RQF w' Q' f b o
  | .nil, _, _, _, _ => by unfold RQF; trivial
  | .cons s t r, b, o, hb, h => by
    unfold RQF at h ⊢
    obtain ⟨⟨es, hss, v0, v1, v2, v3, v4, v5, e0, e1, e2, e3, e4, e5, hv⟩, hr⟩ := h
    exact ⟨⟨(hs _ _ hb).trans es, hss, v0, v1, v2, v3, v4, v5, (hs _ _ hb).trans e0, (hs _ _ hb).trans e1, (hs _ _ hb).trans e2, (hs _ _ hb).trans e3, (hs _ _ hb).trans e4, (hs _ _ hb).trans e5, RQ.keep hs hq t _ hv⟩, RQF.keep hs hq r b (o + 7) hb hr⟩
end
mutual
theorem RQ.of_rv {w : World} {lo hi : Nat} : ∀ (t : VT) (cs : List Value), RV w lo hi t cs → RQ w (fun b => lo ≤ b ∧ b < hi) t cs
  | .mk k b n s l f, cs, h => by
    unfold RV at h
    unfold RQ
    obtain ⟨a1, c1, a2, c2, e, hk, hn, hsz, hl, hf, hc1, hc2, hL, hF⟩ := h
    refine ⟨a1, c1, a2, c2, e, hk, hn, hsz, hl, hf, hc1, hc2, ?_, ?_⟩
    · rcases hL with h0 | ⟨b', o, rfl, h1, h2, hr⟩
      · exact Or.inl h0
      · exact Or.inr ⟨b', o, rfl, ⟨h1, h2⟩, RQL.of_rv l b' o hr⟩
    · rcases hF with h0 | ⟨b', o, rfl, h1, h2, hr⟩
      · exact Or.inl h0
      · exact Or.inr ⟨b', o, rfl, ⟨h1, h2⟩, RQF.of_rv f b' o hr⟩
theorem RQL.of_rv {w : World} {lo hi : Nat} : ∀ (l : VL) (b o : Nat), RL w lo hi l b o → RQL w (fun b => lo ≤ b ∧ b < hi) l b o
  | .nil, _, _, _ => by unfold RQL; trivial
  | .cons t r, b, o, h => by
    unfold RL at h
    unfold RQL
    obtain ⟨⟨v0, v1, v2, v3, v4, v5, e0, e1, e2, e3, e4, e5, hv⟩, hr⟩ := h
    exact ⟨⟨v0, v1, v2, v3, v4, v5, e0, e1, e2, e3, e4, e5, RQ.of_rv t _ hv⟩, RQL.of_rv r b (o + 6) hr⟩
theorem RQF.of_rv {w : World} {lo hi : Nat} : ∀ (f : FL) (b o : Nat), RF w lo hi f b o → RQF w (fun b => lo ≤ b ∧ b < hi) f b o
  | .nil, _, _, _ => by unfold RQF; trivial
  | .cons s t r, b, o, h => by
    unfold RF at h
    unfold RQF
    obtain ⟨⟨es, hss, v0, v1, v2, v3, v4, v5, e0, e1, e2, e3, e4, e5, hv⟩, hr⟩ := h
    exact ⟨⟨es, hss, v0, v1, v2, v3, v4, v5, e0, e1, e2, e3, e4, e5, RQ.of_rv t _ hv⟩, RQF.of_rv r b (o + 7) hr⟩
end
mutual
theorem RQ.to_rv {w : World} {lo hi : Nat} {Q : Nat → Prop} (hq : ∀ b, Q b → lo ≤ b ∧ b < hi) : ∀ (t : VT) (cs : List Value), RQ w Q t cs → RV w lo hi t cs
  | .mk k b n s l f, cs, h => by
    unfold RQ at h
    unfold RV
    obtain ⟨a1, c1, a2, c2, e, hk, hn, hsz, hl, hf, hc1, hc2, hL, hF⟩ := h
    refine ⟨a1, c1, a2, c2, e, hk, hn, hsz, hl, hf, hc1, hc2, ?_, ?_⟩
    · rcases hL with h0 | ⟨b', o, rfl, hb, hr⟩
      · exact Or.inl h0
      · exact Or.inr ⟨b', o, rfl, (hq _ hb).1, (hq _ hb).2, RQL.to_rv hq l b' o hr⟩
    · rcases hF with h0 | ⟨b', o, rfl, hb, hr⟩
      · exact Or.inl h0
      · exact Or.inr ⟨b', o, rfl, (hq _ hb).1, (hq _ hb).2, RQF.to_rv hq f b' o hr⟩
theorem RQL.to_rv {w : World} {lo hi : Nat} {Q : Nat → Prop} (hq : ∀ b, Q b → lo ≤ b ∧ b < hi) : ∀ (l : VL) (b o : Nat), RQL w Q l b o → RL w lo hi l b o
  | .nil, _, _, _ => by unfold RL; trivial
  | .cons t r, b, o, h => by
    unfold RQL at h
    unfold RL
    obtain ⟨⟨v0, v1, v2, v3, v4, v5, e0, e1, e2, e3, e4, e5, hv⟩, hr⟩ := h
    exact ⟨⟨v0, v1, v2, v3, v4, v5, e0, e1, e2, e3, e4, e5, RQ.to_rv hq t _ hv⟩, RQL.to_rv hq r b (o + 6) hr⟩
theorem RQF.to_rv {w : World} {lo hi : Nat} {Q : Nat → Prop} (hq : ∀ b, Q b → lo ≤ b ∧ b < hi) : ∀ (f : FL) (b o : Nat), RQF w Q f b o → RF w lo hi f b o
  | .nil, _, _, _ => by unfold RF; trivial
  | .cons s t r, b, o, h => by
    unfold RQF at h
    unfold RF
    obtain ⟨⟨es, hss, v0, v1, v2, v3, v4, v5, e0, e1, e2, e3, e4, e5, hv⟩, hr⟩ := h
    exact ⟨⟨es, hss, v0, v1, v2, v3, v4, v5, e0, e1, e2, e3, e4, e5, RQ.to_rv hq t _ hv⟩, RQF.to_rv hq r b (o + 7) hr⟩
end
/-- cells that read as values, six each -/
def Vals (w : World) (Q : Nat → Prop) : List VT → List Value → Prop
  | [], cs => cs = []
  | t :: r, cs => ∃ v0 v1 v2 v3 v4 v5 rest, cs = [v0, v1, v2, v3, v4, v5] ++ rest ∧ RQ w Q t [v0, v1, v2, v3, v4, v5] ∧ Vals w Q r rest
theorem Vals.keep {w w' : World} {Q Q' : Nat → Prop} (hs : SameQ Q w w') (hq : ∀ b, Q b → Q' b) : ∀ (l : List VT) (cs : List Value), Vals w Q l cs → Vals w' Q' l cs
  | [], cs, h => h
  | t :: r, cs, ⟨v0, v1, v2, v3, v4, v5, rest, e, hv, hr⟩ => ⟨v0, v1, v2, v3, v4, v5, rest, e, RQ.keep hs hq t _ hv, Vals.keep hs hq r rest hr⟩
theorem Vals.snoc {w : World} {Q : Nat → Prop} {t : VT} {u0 u1 u2 u3 u4 u5 : Value} (hv : RQ w Q t [u0, u1, u2, u3, u4, u5]) : ∀ (l : List VT) (cs : List Value), Vals w Q l cs → Vals w Q (l ++ [t]) (cs ++ [u0, u1, u2, u3, u4, u5])
  | [], cs, h => by
    have h : cs = [] := h
    subst h
    exact ⟨u0, u1, u2, u3, u4, u5, [], rfl, hv, rfl⟩
  | x :: r, cs, ⟨v0, v1, v2, v3, v4, v5, rest, e, hx, hr⟩ => ⟨v0, v1, v2, v3, v4, v5, rest ++ [u0, u1, u2, u3, u4, u5], by rw [e, List.append_assoc], hx, Vals.snoc hv r rest hr⟩
theorem Vals.length {w : World} {Q : Nat → Prop} : ∀ (l : List VT) (cs : List Value), Vals w Q l cs → cs.length = l.length * 6
  | [], cs, h => by have h : cs = [] := h; subst h; rfl
  | x :: r, cs, ⟨v0, v1, v2, v3, v4, v5, rest, e, hx, hr⟩ => by
    have := Vals.length r rest hr
    rw [e]
    simp
    omega
theorem Vals.rows {w : World} {Q : Nat → Prop} {g : Nat} : ∀ (l : List VT) (cs : List Value) (o : Nat), Vals w Q l cs → (∀ j, j < cs.length → w.cell? ⟨g, o + j, none⟩ = cs[j]?) → RQL w Q (toVL l) g o
  | [], cs, o, h, hc => by unfold toVL RQL; trivial
  | x :: r, cs, o, ⟨v0, v1, v2, v3, v4, v5, rest, e, hx, hr⟩, hc => by
    subst e
    unfold toVL RQL
    have hc' : ∀ j, j < 6 + rest.length → w.cell? ⟨g, o + j, none⟩ = ([v0, v1, v2, v3, v4, v5] ++ rest)[j]? := fun j hj => hc j (by simp; omega)
    refine ⟨⟨v0, v1, v2, v3, v4, v5, ?_, ?_, ?_, ?_, ?_, ?_, hx⟩, Vals.rows r rest (o + 6) hr (fun j hj => ?_)⟩
    · exact hc' 0 (by omega)
    · exact hc' 1 (by omega)
    · exact hc' 2 (by omega)
    · exact hc' 3 (by omega)
    · exact hc' 4 (by omega)
    · exact hc' 5 (by omega)
    · have h := hc' (6 + j) (by omega)
      rw [← Nat.add_assoc, List.getElem?_append_right (by simp), show 6 + j - [v0, v1, v2, v3, v4, v5].length = j by simp] at h
      exact h
end Go.Proofs.YtbemgcjckchdjaaGreatDoor
