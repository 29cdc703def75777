import Derived.Test.YtgjgllfeinjpnaaGreatDoorKTd
import Derived.Test.YtgjgllfeinjpnaaGreatDoorKUh
/- codicillaw11.ExprConstants: the walk (printed by genconst.py). -/
namespace Go.Proofs.YtgjgllfeinjpnaaGreatDoor
open Go.RowKit
set_option linter.unusedSimpArgs false
set_option linter.unusedVariables false
set_option maxHeartbeats 4000000
set_option maxRecDepth 100000
theorem lit_rv {w : World} {lo hi : Nat} {t : VT} {k : Int} {b : Bool} {n : Int} {s : ByteArray} {cs : List Value} (e : t = .mk k b n s .nil .nil) (h : RV w lo hi t cs) : RV w lo hi (.mk k b n s .nil .nil) [.int .u8 k, .bool b, .int .i64 n, .string s, .slice none 0 0, .slice none 0 0] := by
  subst e
  obtain ⟨a1, c1, a2, c2, e, d1, d2, d3, d4, d5, d6, d7, _, _⟩ := h
  exact ⟨none, 0, none, 0, rfl, d1, d2, d3, d4, d5, by simp [VL.len], by simp [FL.len], Or.inl rfl, Or.inl rfl⟩
theorem constX_calls (l : List ST) (A0 : Option Addr) (c0 : Nat) (rx ry : VT) (r0 r1 r2 r3 r4 r5 q0 q1 q2 q3 q4 q5 : Value) (w : World) (hL : Laid w) (hcap : l.length ≤ c0) (hlen : l.length ≤ LIM) (hst : ∀ s ∈ l, StOk s) (hrow : RowS w l A0) (hrx : RV w 0 w.heap.size rx [r0, r1, r2, r3, r4, r5]) (hry : RV w 0 w.heap.size ry [q0, q1, q2, q3, q4, q5])
    (c : Int) (hcx : checkV rx 0 = c) (hcb : (c != 0) = true) :
    Calls Tryz.prog 8 #[.slice A0 l.length c0, .agg #[r0, r1, r2, r3, r4, r5], .agg #[q0, q1, q2, q3, q4, q5]] w fun e w' => e = .returned (.bool true) ∧ Below w.heap.size w w' := by
  have hr0 := hrx
  obtain ⟨kr, br, nr, sr, lr, fr, ar1, cr1, ar2, cr2, hre, er, hjx⟩ := RV.mk_parts hrx
  simp only [List.cons.injEq, and_true] at er
  obtain ⟨rfl, rfl, rfl, rfl, rfl, rfl⟩ := er
  have hs0 := hry
  obtain ⟨ks, bs, ns, ss, ls, fs, as1, cs1, as2, cs2, hre2, er, hjx2⟩ := RV.mk_parts hry
  simp only [List.cons.injEq, and_true] at er
  obtain ⟨rfl, rfl, rfl, rfl, rfl, rfl⟩ := er
  clear hjx hjx2 hrx hry hre hre2
  have hb0 := two_allocs (w := w) (.cells #[.int .u8 kr, .bool br, .int .i64 nr, .string sr, .slice ar1 lr.len cr1, .slice ar2 fr.len cr2] 26) (.cells #[.int .u8 ks, .bool bs, .int .i64 ns, .string ss, .slice as1 ls.len cs1, .slice as2 fs.len cs2] 26)
  have hxb : RowBox w.heap.size rx ((w.alloc (.cells #[.int .u8 kr, .bool br, .int .i64 nr, .string sr, .slice ar1 lr.len cr1, .slice ar2 fr.len cr2] 26)).alloc (.cells #[.int .u8 ks, .bool bs, .int .i64 ns, .string ss, .slice as1 ls.len cs1, .slice as2 fs.len cs2] 26)) (.int .u8 kr) (.bool br) (.int .i64 nr) (.string sr) (.slice ar1 lr.len cr1) (.slice ar2 fr.len cr2) := ⟨blk_alloc (heap_last _ _), hr0.grow hb0⟩
  have hyb : RowBox (w.heap.size + 1) ry ((w.alloc (.cells #[.int .u8 kr, .bool br, .int .i64 nr, .string sr, .slice ar1 lr.len cr1, .slice ar2 fr.len cr2] 26)).alloc (.cells #[.int .u8 ks, .bool bs, .int .i64 ns, .string ss, .slice as1 ls.len cs1, .slice as2 fs.len cs2] 26)) (.int .u8 ks) (.bool bs) (.int .i64 ns) (.string ss) (.slice as1 ls.len cs1) (.slice as2 fs.len cs2) := ⟨by have := heap_last (w.alloc (.cells #[.int .u8 kr, .bool br, .int .i64 nr, .string sr, .slice ar1 lr.len cr1, .slice ar2 fr.len cr2] 26)) (.cells #[.int .u8 ks, .bool bs, .int .i64 ns, .string ss, .slice as1 ls.len cs1, .slice as2 fs.len cs2] 26); simpa using this, hs0.grow hb0⟩
  have HLV := Lib.hid (lives_calls _ (hL.below hb0))
  have HB0 := Lib.hid hb0
  have HX0 := Lib.hid hxb
  have HY0 := Lib.hid hyb
  have HCX := Lib.hid (fun (w' : World) (hb : Below w.heap.size w w') => Check_any rx w' _ 0 w'.heap.size (hr0.grow hb) (Nat.le_refl _) (hL.below hb).tabs)
  have HCY := Lib.hid (fun (w' : World) (hb : Below w.heap.size w w') => Check_any ry w' _ 0 w'.heap.size (hs0.grow hb) (Nat.le_refl _) (hL.below hb).tabs)
  rw [hcx] at HCX
  clear hb0 hxb hyb hL hst hrow hr0 hs0 hlen hcap
  clear hcx
  go_enter Tryz.func8, Tryz.ntmps8
  go_upto_region 3 with (go_at_call 9; (with_reducible refine (HLV.out).mono ?_); rintro e w1 ⟨rfl, hb1⟩; have HB1 := Lib.hid (below_call0 HB0.out HB0.out.size hb1); have HX1 := Lib.hid (HX0.out.keep hb1); have HY1 := Lib.hid (HY0.out.keep hb1); clear hb1)
  clear HLV HB0 HX0 HY0
  obtain ⟨x0, x1, x2, x3, x4, x5, x6⟩ := cells6 HX1.out.1
  obtain ⟨y0, y1, y2, y3, y4, y5, y6⟩ := cells6 HY1.out.1
  go_wp2_with (go_at_call 10; (with_reducible refine (HCX.out _ HB1.out).mono ?_); rintro e w2 ⟨rfl, hb2⟩; clear x0 x1 x2 x3 x4 x5 x6 y0 y1 y2 y3 y4 y5 y6; have HB2 := Lib.hid (below_call0 HB1.out HB1.out.size hb2); have HX2 := Lib.hid (HX1.out.keep hb2); have HY2 := Lib.hid (HY1.out.keep hb2); clear hb2; obtain ⟨y0, y1, y2, y3, y4, y5, y6⟩ := cells6 HY2.out.1)
  go_ret
  exact ⟨rfl, HB2.out⟩
theorem constY_calls (l : List ST) (A0 : Option Addr) (c0 : Nat) (rx ry : VT) (r0 r1 r2 r3 r4 r5 q0 q1 q2 q3 q4 q5 : Value) (w : World) (hL : Laid w) (hcap : l.length ≤ c0) (hlen : l.length ≤ LIM) (hst : ∀ s ∈ l, StOk s) (hrow : RowS w l A0) (hrx : RV w 0 w.heap.size rx [r0, r1, r2, r3, r4, r5]) (hry : RV w 0 w.heap.size ry [q0, q1, q2, q3, q4, q5])
    (c : Int) (hcx : checkV rx 0 = 0) (hcy : checkV ry 0 = c) (hcb : (c != 0) = true) :
    Calls Tryz.prog 8 #[.slice A0 l.length c0, .agg #[r0, r1, r2, r3, r4, r5], .agg #[q0, q1, q2, q3, q4, q5]] w fun e w' => e = .returned (.bool true) ∧ Below w.heap.size w w' := by
  have hr0 := hrx
  obtain ⟨kr, br, nr, sr, lr, fr, ar1, cr1, ar2, cr2, hre, er, hjx⟩ := RV.mk_parts hrx
  simp only [List.cons.injEq, and_true] at er
  obtain ⟨rfl, rfl, rfl, rfl, rfl, rfl⟩ := er
  have hs0 := hry
  obtain ⟨ks, bs, ns, ss, ls, fs, as1, cs1, as2, cs2, hre2, er, hjx2⟩ := RV.mk_parts hry
  simp only [List.cons.injEq, and_true] at er
  obtain ⟨rfl, rfl, rfl, rfl, rfl, rfl⟩ := er
  clear hjx hjx2 hrx hry hre hre2
  have hb0 := two_allocs (w := w) (.cells #[.int .u8 kr, .bool br, .int .i64 nr, .string sr, .slice ar1 lr.len cr1, .slice ar2 fr.len cr2] 26) (.cells #[.int .u8 ks, .bool bs, .int .i64 ns, .string ss, .slice as1 ls.len cs1, .slice as2 fs.len cs2] 26)
  have hxb : RowBox w.heap.size rx ((w.alloc (.cells #[.int .u8 kr, .bool br, .int .i64 nr, .string sr, .slice ar1 lr.len cr1, .slice ar2 fr.len cr2] 26)).alloc (.cells #[.int .u8 ks, .bool bs, .int .i64 ns, .string ss, .slice as1 ls.len cs1, .slice as2 fs.len cs2] 26)) (.int .u8 kr) (.bool br) (.int .i64 nr) (.string sr) (.slice ar1 lr.len cr1) (.slice ar2 fr.len cr2) := ⟨blk_alloc (heap_last _ _), hr0.grow hb0⟩
  have hyb : RowBox (w.heap.size + 1) ry ((w.alloc (.cells #[.int .u8 kr, .bool br, .int .i64 nr, .string sr, .slice ar1 lr.len cr1, .slice ar2 fr.len cr2] 26)).alloc (.cells #[.int .u8 ks, .bool bs, .int .i64 ns, .string ss, .slice as1 ls.len cs1, .slice as2 fs.len cs2] 26)) (.int .u8 ks) (.bool bs) (.int .i64 ns) (.string ss) (.slice as1 ls.len cs1) (.slice as2 fs.len cs2) := ⟨by have := heap_last (w.alloc (.cells #[.int .u8 kr, .bool br, .int .i64 nr, .string sr, .slice ar1 lr.len cr1, .slice ar2 fr.len cr2] 26)) (.cells #[.int .u8 ks, .bool bs, .int .i64 ns, .string ss, .slice as1 ls.len cs1, .slice as2 fs.len cs2] 26); simpa using this, hs0.grow hb0⟩
  have HLV := Lib.hid (lives_calls _ (hL.below hb0))
  have HB0 := Lib.hid hb0
  have HX0 := Lib.hid hxb
  have HY0 := Lib.hid hyb
  have HCX := Lib.hid (fun (w' : World) (hb : Below w.heap.size w w') => Check_any rx w' _ 0 w'.heap.size (hr0.grow hb) (Nat.le_refl _) (hL.below hb).tabs)
  have HCY := Lib.hid (fun (w' : World) (hb : Below w.heap.size w w') => Check_any ry w' _ 0 w'.heap.size (hs0.grow hb) (Nat.le_refl _) (hL.below hb).tabs)
  rw [hcx] at HCX
  rw [hcy] at HCY
  clear hb0 hxb hyb hL hst hrow hr0 hs0 hlen hcap
  clear hcx hcy
  go_enter Tryz.func8, Tryz.ntmps8
  go_upto_region 3 with (go_at_call 9; (with_reducible refine (HLV.out).mono ?_); rintro e w1 ⟨rfl, hb1⟩; have HB1 := Lib.hid (below_call0 HB0.out HB0.out.size hb1); have HX1 := Lib.hid (HX0.out.keep hb1); have HY1 := Lib.hid (HY0.out.keep hb1); clear hb1)
  clear HLV HB0 HX0 HY0
  obtain ⟨x0, x1, x2, x3, x4, x5, x6⟩ := cells6 HX1.out.1
  obtain ⟨y0, y1, y2, y3, y4, y5, y6⟩ := cells6 HY1.out.1
  go_wp2_with (first | (go_at_call 10; (with_reducible refine (HCX.out _ HB1.out).mono ?_); rintro e w2 ⟨rfl, hb2⟩; clear x0 x1 x2 x3 x4 x5 x6 y0 y1 y2 y3 y4 y5 y6; have HB2 := Lib.hid (below_call0 HB1.out HB1.out.size hb2); have HX2 := Lib.hid (HX1.out.keep hb2); have HY2 := Lib.hid (HY1.out.keep hb2); clear hb2; obtain ⟨y0, y1, y2, y3, y4, y5, y6⟩ := cells6 HY2.out.1) | (go_at_call 10; (with_reducible refine (HCY.out _ HB2.out).mono ?_); rintro e w3 ⟨rfl, hb3⟩; clear y0 y1 y2 y3 y4 y5 y6; have HB3 := Lib.hid (below_call0 HB2.out HB2.out.size hb3); have HX3 := Lib.hid (HX2.out.keep hb3); have HY3 := Lib.hid (HY2.out.keep hb3); clear hb3; obtain ⟨x0, x1, x2, x3, x4, x5, x6⟩ := cells6 HX3.out.1))
  go_ret
  exact ⟨rfl, HB3.out⟩
theorem constN_calls (l : List ST) (A0 : Option Addr) (c0 : Nat) (rx ry : VT) (r0 r1 r2 r3 r4 r5 q0 q1 q2 q3 q4 q5 : Value) (w : World) (hL : Laid w) (hcap : l.length ≤ c0) (hlen : l.length ≤ LIM) (hst : ∀ s ∈ l, StOk s) (hrow : RowS w l A0) (hrx : RV w 0 w.heap.size rx [r0, r1, r2, r3, r4, r5]) (hry : RV w 0 w.heap.size ry [q0, q1, q2, q3, q4, q5])
    (hcx : checkV rx 0 = 0) (hcy : checkV ry 0 = 0) (kv : Int) (bv : Bool) (nv : Int) (sv : ByteArray) (lv : VL) (fv : FL) (ev : Int) (he : evalE l rx = (.mk kv bv nv sv lv fv, ev)) (ku : Int) (bu : Bool) (nu : Int) (su : ByteArray) (lu : VL) (fu : FL) (eu : Int) (hu : evalE l ry = (.mk ku bu nu su lu fu, eu)) (hli : litO l = none) :
    Calls Tryz.prog 8 #[.slice A0 l.length c0, .agg #[r0, r1, r2, r3, r4, r5], .agg #[q0, q1, q2, q3, q4, q5]] w fun e w' => e = .returned (.bool true) ∧ Below w.heap.size w w' := by
  have hr0 := hrx
  obtain ⟨kr, br, nr, sr, lr, fr, ar1, cr1, ar2, cr2, hre, er, hjx⟩ := RV.mk_parts hrx
  simp only [List.cons.injEq, and_true] at er
  obtain ⟨rfl, rfl, rfl, rfl, rfl, rfl⟩ := er
  have hs0 := hry
  obtain ⟨ks, bs, ns, ss, ls, fs, as1, cs1, as2, cs2, hre2, er, hjx2⟩ := RV.mk_parts hry
  simp only [List.cons.injEq, and_true] at er
  obtain ⟨rfl, rfl, rfl, rfl, rfl, rfl⟩ := er
  clear hjx hjx2 hrx hry hre hre2
  have hb0 := two_allocs (w := w) (.cells #[.int .u8 kr, .bool br, .int .i64 nr, .string sr, .slice ar1 lr.len cr1, .slice ar2 fr.len cr2] 26) (.cells #[.int .u8 ks, .bool bs, .int .i64 ns, .string ss, .slice as1 ls.len cs1, .slice as2 fs.len cs2] 26)
  have hxb : RowBox w.heap.size rx ((w.alloc (.cells #[.int .u8 kr, .bool br, .int .i64 nr, .string sr, .slice ar1 lr.len cr1, .slice ar2 fr.len cr2] 26)).alloc (.cells #[.int .u8 ks, .bool bs, .int .i64 ns, .string ss, .slice as1 ls.len cs1, .slice as2 fs.len cs2] 26)) (.int .u8 kr) (.bool br) (.int .i64 nr) (.string sr) (.slice ar1 lr.len cr1) (.slice ar2 fr.len cr2) := ⟨blk_alloc (heap_last _ _), hr0.grow hb0⟩
  have hyb : RowBox (w.heap.size + 1) ry ((w.alloc (.cells #[.int .u8 kr, .bool br, .int .i64 nr, .string sr, .slice ar1 lr.len cr1, .slice ar2 fr.len cr2] 26)).alloc (.cells #[.int .u8 ks, .bool bs, .int .i64 ns, .string ss, .slice as1 ls.len cs1, .slice as2 fs.len cs2] 26)) (.int .u8 ks) (.bool bs) (.int .i64 ns) (.string ss) (.slice as1 ls.len cs1) (.slice as2 fs.len cs2) := ⟨by have := heap_last (w.alloc (.cells #[.int .u8 kr, .bool br, .int .i64 nr, .string sr, .slice ar1 lr.len cr1, .slice ar2 fr.len cr2] 26)) (.cells #[.int .u8 ks, .bool bs, .int .i64 ns, .string ss, .slice as1 ls.len cs1, .slice as2 fs.len cs2] 26); simpa using this, hs0.grow hb0⟩
  have HLV := Lib.hid (lives_calls _ (hL.below hb0))
  have HB0 := Lib.hid hb0
  have HX0 := Lib.hid hxb
  have HY0 := Lib.hid hyb
  have HCX := Lib.hid (fun (w' : World) (hb : Below w.heap.size w w') => Check_any rx w' _ 0 w'.heap.size (hr0.grow hb) (Nat.le_refl _) (hL.below hb).tabs)
  have HCY := Lib.hid (fun (w' : World) (hb : Below w.heap.size w w') => Check_any ry w' _ 0 w'.heap.size (hs0.grow hb) (Nat.le_refl _) (hL.below hb).tabs)
  have hcl : rightB l = true → closedB l = true → ev = eu ∧ sameV (.mk kv bv nv sv lv fv) (.mk ku bu nu su lu fu) = true := fun _ h2 => by
    have e := closed_eval h2 hcx hcy
    rw [he, hu] at e
    cases e
    exact ⟨rfl, sameV_refl' _⟩
  rw [hcx] at HCX
  rw [hcy] at HCY
  have HEV1 := Lib.hid (fun (w' : World) (hb : Below w.heap.size w w') => evalM_calls l A0 c0 rx _ _ _ _ _ _ w' hlen hst (hL.below hb) (RowS.keep hrow hb) (hr0.grow hb))
  have HEV2 := Lib.hid (fun (w' : World) (hb : Below w.heap.size w w') => evalM_calls l A0 c0 ry _ _ _ _ _ _ w' hlen hst (hL.below hb) (RowS.keep hrow hb) (hs0.grow hb))
  have HLT := Lib.hid (fun (w' : World) (hb : Below w.heap.size w w') => lit_calls l A0 c0 w' hcap hlen hst (hL.below hb) (RowS.keep hrow hb))
  have HRT := Lib.hid (fun (w' : World) (hb : Below w.heap.size w w') => right_calls l A0 c0 w' (hL.below hb) hlen (fun s hs => (hst s hs).2.1) (RowS.keep hrow hb))
  have HCD := Lib.hid (fun (w' : World) (hb : Below w.heap.size w w') => closed_calls l A0 c0 w' hlen (RowS.keep hrow hb))
  rw [he] at HEV1
  rw [hu] at HEV2
  rw [hli] at HLT
  obtain ⟨n, hn⟩ : ∃ n, l.length = n := ⟨_, rfl⟩
  obtain ⟨rb, hrb⟩ : ∃ b, rightB l = b := ⟨_, rfl⟩
  obtain ⟨cb, hcb⟩ : ∃ b, closedB l = b := ⟨_, rfl⟩
  rw [hrb, hcb] at hcl
  rw [hrb] at HRT
  rw [hcb] at HCD
  rw [hn] at HEV1 HEV2 HLT HRT HCD ⊢
  have HCL := Lib.hid hcl
  clear hb0 hxb hyb hL hst hrow hr0 hs0 hlen hcap
  clear hcx hcy he hu hli hn hrb hcb hcl
  go_enter Tryz.func8, Tryz.ntmps8
  go_upto_region 3 with (go_at_call 9; (with_reducible refine (HLV.out).mono ?_); rintro e w1 ⟨rfl, hb1⟩; have HB1 := Lib.hid (below_call0 HB0.out HB0.out.size hb1); have HX1 := Lib.hid (HX0.out.keep hb1); have HY1 := Lib.hid (HY0.out.keep hb1); clear hb1)
  clear HLV HB0 HX0 HY0
  obtain ⟨x0, x1, x2, x3, x4, x5, x6⟩ := cells6 HX1.out.1
  obtain ⟨y0, y1, y2, y3, y4, y5, y6⟩ := cells6 HY1.out.1
  go_upto_region 5 with (first | (go_at_call 10; (with_reducible refine (HCX.out _ HB1.out).mono ?_); rintro e w2 ⟨rfl, hb2⟩; clear x0 x1 x2 x3 x4 x5 x6 y0 y1 y2 y3 y4 y5 y6; have HB2 := Lib.hid (below_call0 HB1.out HB1.out.size hb2); have HX2 := Lib.hid (HX1.out.keep hb2); have HY2 := Lib.hid (HY1.out.keep hb2); clear hb2; obtain ⟨y0, y1, y2, y3, y4, y5, y6⟩ := cells6 HY2.out.1) | (go_at_call 10; (with_reducible refine (HCY.out _ HB2.out).mono ?_); rintro e w3 ⟨rfl, hb3⟩; clear y0 y1 y2 y3 y4 y5 y6; have HB3 := Lib.hid (below_call0 HB2.out HB2.out.size hb3); have HX3 := Lib.hid (HX2.out.keep hb3); have HY3 := Lib.hid (HY2.out.keep hb3); clear hb3; obtain ⟨x0, x1, x2, x3, x4, x5, x6⟩ := cells6 HX3.out.1))
  clear HB1 HX1 HY1 HB2 HX2 HY2 HCX HCY
  go_upto_region 6 with (go_at_call 13; (with_reducible refine (HEV1.out _ HB3.out).mono ?_); intro e w4 hev; obtain ⟨hb4, a1, c1, a2, c2, rfl, hv4⟩ := hev.parts; have HB4 := Lib.hid hb4; have HV4 := Lib.hid hv4; clear hev hb4 hv4)
  clear x0 x1 x2 x3 x4 x5 x6
  have hb5 := below_call0 HB4.out HB4.out.size (below_new (w := w4) (.cells #[.int .u8 kv, .bool bv, .int .i64 nv, .string sv, .slice a1 lv.len c1, .slice a2 fv.len c2] 26))
  have HB5 := Lib.hid (below_call0 HB3.out HB3.out.size hb5)
  have HY5 := Lib.hid (HY3.out.keep hb5)
  have hg5 : w4.heap.size < (w4.alloc (.cells #[.int .u8 kv, .bool bv, .int .i64 nv, .string sv, .slice a1 lv.len c1, .slice a2 fv.len c2] 26)).heap.size := by simp
  have HV5 : Hid (RowBox w4.heap.size (.mk kv bv nv sv lv fv) (w4.alloc (.cells #[.int .u8 kv, .bool bv, .int .i64 nv, .string sv, .slice a1 lv.len c1, .slice a2 fv.len c2] 26)) (.int .u8 kv) (.bool bv) (.int .i64 nv) (.string sv) (.slice a1 lv.len c1) (.slice a2 fv.len c2)) := Lib.hid ⟨heap_last _ _, RV.grow (RV.keep (Same.of_below (Below.refl _ _)) (Nat.zero_le _) (Nat.le_refl _) _ _ HV4.out) (below_new _)⟩
  generalize w4.alloc (.cells #[.int .u8 kv, .bool bv, .int .i64 nv, .string sv, .slice a1 lv.len c1, .slice a2 fv.len c2] 26) = W5 at *
  generalize w4.heap.size = g1 at *
  clear hb5 HB4 HV4 HX3 HY3 HB3 HEV1
  obtain ⟨y0, y1, y2, y3, y4, y5, y6⟩ := cells6 HY5.out.1
  go_upto_region 7 with (go_at_call 13; (with_reducible refine (HEV2.out _ HB5.out).mono ?_); intro e w6 hev; obtain ⟨hb6, a3, c3, a4, c4, rfl, hv6⟩ := hev.parts; have HB6 := Lib.hid hb6; have HV6 := Lib.hid hv6; clear hev hb6 hv6)
  clear y0 y1 y2 y3 y4 y5 y6
  have hb7 := below_call0 HB6.out HB6.out.size (below_new (w := w6) (.cells #[.int .u8 ku, .bool bu, .int .i64 nu, .string su, .slice a3 lu.len c3, .slice a4 fu.len c4] 26))
  have HB7 := Lib.hid (below_call0 HB5.out HB5.out.size hb7)
  have HV7 := Lib.hid (HV5.out.keep hb7)
  have HU7 : Hid (RowBox w6.heap.size (.mk ku bu nu su lu fu) (w6.alloc (.cells #[.int .u8 ku, .bool bu, .int .i64 nu, .string su, .slice a3 lu.len c3, .slice a4 fu.len c4] 26)) (.int .u8 ku) (.bool bu) (.int .i64 nu) (.string su) (.slice a3 lu.len c3) (.slice a4 fu.len c4)) := Lib.hid ⟨heap_last _ _, RV.grow (RV.keep (Same.of_below (Below.refl _ _)) (Nat.zero_le _) (Nat.le_refl _) _ _ HV6.out) (below_new _)⟩
  generalize w6.alloc (.cells #[.int .u8 ku, .bool bu, .int .i64 nu, .string su, .slice a3 lu.len c3, .slice a4 fu.len c4] 26) = W7 at *
  generalize w6.heap.size = g2 at *
  clear hb7 HB6 HV6 HY5 HB5 HEV2 HV5 hg5
  go_upto_region 8 with (go_at_call 18; (with_reducible refine (HLT.out _ HB7.out).mono ?_); rintro e w8 ⟨hb8, hlit⟩; obtain rfl := hlit; have HB8 := Lib.hid hb8; clear hb8)
  have hb9 := below_call0 HB8.out HB8.out.size (below_new (w := w8) (.cells #[.int .u8 0, .bool false, .int .i64 0, .string ⟨#[]⟩, .slice none 0 0, .slice none 0 0] 26))
  have HB9 := Lib.hid (below_call0 HB7.out HB7.out.size hb9)
  have HV9 := Lib.hid (HV7.out.keep hb9)
  have HU9 := Lib.hid (HU7.out.keep hb9)
  have HL9 := Lib.hid (heap_last w8 (.cells #[.int .u8 0, .bool false, .int .i64 0, .string ⟨#[]⟩, .slice none 0 0, .slice none 0 0] 26))
  generalize w8.alloc (.cells #[.int .u8 0, .bool false, .int .i64 0, .string ⟨#[]⟩, .slice none 0 0, .slice none 0 0] 26) = W9 at *
  generalize w8.heap.size = g3 at *
  clear hb9 HB8 HV7 HU7 HB7 HLT
  obtain ⟨v0, v1, v2, v3, v4, v5, v6⟩ := cells6 HV9.out.1
  obtain ⟨u0, u1, u2, u3, u4, u5, u6⟩ := cells6 HU9.out.1
  obtain ⟨l0, l1, l2, l3, l4, l5, l6⟩ := cells6 HL9.out
  go_upto_region 10 with fail
  obtain ⟨w10, hw10⟩ : ∃ x, W9 = x := ⟨_, rfl⟩
  subst hw10
  have HB10 := HB9
  have HV10 := HV9
  have HU10 := HU9
  clear HB9 HV9 HU9
  cases rb with
  | false =>
    go_wp2_with (go_at_call 19; (with_reducible refine (HRT.out _ HB10.out).mono ?_); rintro e w11 ⟨rfl, hb11⟩; have HB11 := Lib.hid (below_call0 HB10.out HB10.out.size hb11); clear hb11)
    go_ret
    exact ⟨rfl, HB11.out⟩
  | true =>
    cases cb with
    | false =>
      go_wp2_with (first | (go_at_call 19; (with_reducible refine (HRT.out _ HB10.out).mono ?_); rintro e w11 ⟨rfl, hb11⟩; have HB11 := Lib.hid (below_call0 HB10.out HB10.out.size hb11); clear hb11) | (go_at_call 20; (with_reducible refine (HCD.out _ HB11.out).mono ?_); rintro e w12 ⟨rfl, hb12⟩; have HB12 := Lib.hid (below_call0 HB11.out HB11.out.size hb12); clear hb12))
      go_ret
      exact ⟨rfl, HB12.out⟩
    | true =>
      obtain ⟨heq, hsm⟩ := HCL.out rfl rfl
      subst heq
      have HSM := Lib.hid hsm
      clear hsm
      go_wp2_with (first | (go_at_call 19; (with_reducible refine (HRT.out _ HB10.out).mono ?_); rintro e w11 ⟨rfl, hb11⟩; have HB11 := Lib.hid (below_call0 HB10.out HB10.out.size hb11); have HV11 := Lib.hid (HV10.out.keep hb11); have HU11 := Lib.hid (HU10.out.keep hb11); clear hb11) | (go_at_call 20; (with_reducible refine (HCD.out _ HB11.out).mono ?_); rintro e w12 ⟨rfl, hb12⟩; have HB12 := Lib.hid (below_call0 HB11.out HB11.out.size hb12); have HV12 := Lib.hid (HV11.out.keep hb12); have HU12 := Lib.hid (HU11.out.keep hb12); clear hb12; obtain ⟨v0, v1, v2, v3, v4, v5, v6⟩ := cells6 HV12.out.1; obtain ⟨u0, u1, u2, u3, u4, u5, u6⟩ := cells6 HU12.out.1; have hs0 := Same_any _ _ _ _ _ _ HV12.out.2 HU12.out.2 (Nat.le_refl _); rw [HSM.out] at hs0; have HS0 := Lib.hid hs0; clear hs0) | (go_at_call 15; (with_reducible refine (HS0.out).mono ?_); rintro e w13 ⟨rfl, hb13⟩; have HB13 := Lib.hid (below_call0 HB12.out HB12.out.size hb13); clear hb13))
      go_ret
      exact ⟨rfl, HB13.out⟩
theorem constS_calls (l : List ST) (A0 : Option Addr) (c0 : Nat) (rx ry : VT) (r0 r1 r2 r3 r4 r5 q0 q1 q2 q3 q4 q5 : Value) (w : World) (hL : Laid w) (hcap : l.length ≤ c0) (hlen : l.length ≤ LIM) (hst : ∀ s ∈ l, StOk s) (hrow : RowS w l A0) (hrx : RV w 0 w.heap.size rx [r0, r1, r2, r3, r4, r5]) (hry : RV w 0 w.heap.size ry [q0, q1, q2, q3, q4, q5])
    (hcx : checkV rx 0 = 0) (hcy : checkV ry 0 = 0) (kv : Int) (bv : Bool) (nv : Int) (sv : ByteArray) (lv : VL) (fv : FL) (ev : Int) (he : evalE l rx = (.mk kv bv nv sv lv fv, ev)) (ku : Int) (bu : Bool) (nu : Int) (su : ByteArray) (lu : VL) (fu : FL) (eu : Int) (hu : evalE l ry = (.mk ku bu nu su lu fu, eu)) (kl : Int) (bl : Bool) (nl : Int) (sl : ByteArray) (hli : litO l = some (.mk kl bl nl sl .nil .nil)) (hvv : VT.mk kv bv nv sv lv fv = .mk kl bl nl sl .nil .nil) (hev : ev = 0) (hkl : (kl == 0) = false) :
    Calls Tryz.prog 8 #[.slice A0 l.length c0, .agg #[r0, r1, r2, r3, r4, r5], .agg #[q0, q1, q2, q3, q4, q5]] w fun e w' => e = .returned (.bool true) ∧ Below w.heap.size w w' := by
  have hr0 := hrx
  obtain ⟨kr, br, nr, sr, lr, fr, ar1, cr1, ar2, cr2, hre, er, hjx⟩ := RV.mk_parts hrx
  simp only [List.cons.injEq, and_true] at er
  obtain ⟨rfl, rfl, rfl, rfl, rfl, rfl⟩ := er
  have hs0 := hry
  obtain ⟨ks, bs, ns, ss, ls, fs, as1, cs1, as2, cs2, hre2, er, hjx2⟩ := RV.mk_parts hry
  simp only [List.cons.injEq, and_true] at er
  obtain ⟨rfl, rfl, rfl, rfl, rfl, rfl⟩ := er
  clear hjx hjx2 hrx hry hre hre2
  have hb0 := two_allocs (w := w) (.cells #[.int .u8 kr, .bool br, .int .i64 nr, .string sr, .slice ar1 lr.len cr1, .slice ar2 fr.len cr2] 26) (.cells #[.int .u8 ks, .bool bs, .int .i64 ns, .string ss, .slice as1 ls.len cs1, .slice as2 fs.len cs2] 26)
  have hxb : RowBox w.heap.size rx ((w.alloc (.cells #[.int .u8 kr, .bool br, .int .i64 nr, .string sr, .slice ar1 lr.len cr1, .slice ar2 fr.len cr2] 26)).alloc (.cells #[.int .u8 ks, .bool bs, .int .i64 ns, .string ss, .slice as1 ls.len cs1, .slice as2 fs.len cs2] 26)) (.int .u8 kr) (.bool br) (.int .i64 nr) (.string sr) (.slice ar1 lr.len cr1) (.slice ar2 fr.len cr2) := ⟨blk_alloc (heap_last _ _), hr0.grow hb0⟩
  have hyb : RowBox (w.heap.size + 1) ry ((w.alloc (.cells #[.int .u8 kr, .bool br, .int .i64 nr, .string sr, .slice ar1 lr.len cr1, .slice ar2 fr.len cr2] 26)).alloc (.cells #[.int .u8 ks, .bool bs, .int .i64 ns, .string ss, .slice as1 ls.len cs1, .slice as2 fs.len cs2] 26)) (.int .u8 ks) (.bool bs) (.int .i64 ns) (.string ss) (.slice as1 ls.len cs1) (.slice as2 fs.len cs2) := ⟨by have := heap_last (w.alloc (.cells #[.int .u8 kr, .bool br, .int .i64 nr, .string sr, .slice ar1 lr.len cr1, .slice ar2 fr.len cr2] 26)) (.cells #[.int .u8 ks, .bool bs, .int .i64 ns, .string ss, .slice as1 ls.len cs1, .slice as2 fs.len cs2] 26); simpa using this, hs0.grow hb0⟩
  have HLV := Lib.hid (lives_calls _ (hL.below hb0))
  have HB0 := Lib.hid hb0
  have HX0 := Lib.hid hxb
  have HY0 := Lib.hid hyb
  have HCX := Lib.hid (fun (w' : World) (hb : Below w.heap.size w w') => Check_any rx w' _ 0 w'.heap.size (hr0.grow hb) (Nat.le_refl _) (hL.below hb).tabs)
  have HCY := Lib.hid (fun (w' : World) (hb : Below w.heap.size w w') => Check_any ry w' _ 0 w'.heap.size (hs0.grow hb) (Nat.le_refl _) (hL.below hb).tabs)
  have hcl : rightB l = true → closedB l = true → ev = eu ∧ sameV (.mk kv bv nv sv lv fv) (.mk ku bu nu su lu fu) = true := fun _ h2 => by
    have e := closed_eval h2 hcx hcy
    rw [he, hu] at e
    cases e
    exact ⟨rfl, sameV_refl' _⟩
  rw [hcx] at HCX
  rw [hcy] at HCY
  have HEV1 := Lib.hid (fun (w' : World) (hb : Below w.heap.size w w') => evalM_calls l A0 c0 rx _ _ _ _ _ _ w' hlen hst (hL.below hb) (RowS.keep hrow hb) (hr0.grow hb))
  have HEV2 := Lib.hid (fun (w' : World) (hb : Below w.heap.size w w') => evalM_calls l A0 c0 ry _ _ _ _ _ _ w' hlen hst (hL.below hb) (RowS.keep hrow hb) (hs0.grow hb))
  have HLT := Lib.hid (fun (w' : World) (hb : Below w.heap.size w w') => lit_calls l A0 c0 w' hcap hlen hst (hL.below hb) (RowS.keep hrow hb))
  have HRT := Lib.hid (fun (w' : World) (hb : Below w.heap.size w w') => right_calls l A0 c0 w' (hL.below hb) hlen (fun s hs => (hst s hs).2.1) (RowS.keep hrow hb))
  have HCD := Lib.hid (fun (w' : World) (hb : Below w.heap.size w w') => closed_calls l A0 c0 w' hlen (RowS.keep hrow hb))
  rw [he] at HEV1
  rw [hu] at HEV2
  rw [hli] at HLT
  obtain ⟨n, hn⟩ : ∃ n, l.length = n := ⟨_, rfl⟩
  obtain ⟨rb, hrb⟩ : ∃ b, rightB l = b := ⟨_, rfl⟩
  obtain ⟨cb, hcb⟩ : ∃ b, closedB l = b := ⟨_, rfl⟩
  rw [hrb, hcb] at hcl
  rw [hrb] at HRT
  rw [hcb] at HCD
  rw [hn] at HEV1 HEV2 HLT HRT HCD ⊢
  have HCL := Lib.hid hcl
  subst hev
  have HVV := Lib.hid hvv
  have HSL : Hid (sameV (.mk kl bl nl sl .nil .nil) (.mk kv bv nv sv lv fv) = true) := Lib.hid (by rw [hvv]; exact sameV_refl' _)
  clear hb0 hxb hyb hL hst hrow hr0 hs0 hlen hcap
  clear hcx hcy he hu hli hn hrb hcb hcl hvv
  go_enter Tryz.func8, Tryz.ntmps8
  go_upto_region 3 with (go_at_call 9; (with_reducible refine (HLV.out).mono ?_); rintro e w1 ⟨rfl, hb1⟩; have HB1 := Lib.hid (below_call0 HB0.out HB0.out.size hb1); have HX1 := Lib.hid (HX0.out.keep hb1); have HY1 := Lib.hid (HY0.out.keep hb1); clear hb1)
  clear HLV HB0 HX0 HY0
  obtain ⟨x0, x1, x2, x3, x4, x5, x6⟩ := cells6 HX1.out.1
  obtain ⟨y0, y1, y2, y3, y4, y5, y6⟩ := cells6 HY1.out.1
  go_upto_region 5 with (first | (go_at_call 10; (with_reducible refine (HCX.out _ HB1.out).mono ?_); rintro e w2 ⟨rfl, hb2⟩; clear x0 x1 x2 x3 x4 x5 x6 y0 y1 y2 y3 y4 y5 y6; have HB2 := Lib.hid (below_call0 HB1.out HB1.out.size hb2); have HX2 := Lib.hid (HX1.out.keep hb2); have HY2 := Lib.hid (HY1.out.keep hb2); clear hb2; obtain ⟨y0, y1, y2, y3, y4, y5, y6⟩ := cells6 HY2.out.1) | (go_at_call 10; (with_reducible refine (HCY.out _ HB2.out).mono ?_); rintro e w3 ⟨rfl, hb3⟩; clear y0 y1 y2 y3 y4 y5 y6; have HB3 := Lib.hid (below_call0 HB2.out HB2.out.size hb3); have HX3 := Lib.hid (HX2.out.keep hb3); have HY3 := Lib.hid (HY2.out.keep hb3); clear hb3; obtain ⟨x0, x1, x2, x3, x4, x5, x6⟩ := cells6 HX3.out.1))
  clear HB1 HX1 HY1 HB2 HX2 HY2 HCX HCY
  go_upto_region 6 with (go_at_call 13; (with_reducible refine (HEV1.out _ HB3.out).mono ?_); intro e w4 hev; obtain ⟨hb4, a1, c1, a2, c2, rfl, hv4⟩ := hev.parts; have HB4 := Lib.hid hb4; have HV4 := Lib.hid hv4; clear hev hb4 hv4)
  clear x0 x1 x2 x3 x4 x5 x6
  have hb5 := below_call0 HB4.out HB4.out.size (below_new (w := w4) (.cells #[.int .u8 kv, .bool bv, .int .i64 nv, .string sv, .slice a1 lv.len c1, .slice a2 fv.len c2] 26))
  have HB5 := Lib.hid (below_call0 HB3.out HB3.out.size hb5)
  have HY5 := Lib.hid (HY3.out.keep hb5)
  have hg5 : w4.heap.size < (w4.alloc (.cells #[.int .u8 kv, .bool bv, .int .i64 nv, .string sv, .slice a1 lv.len c1, .slice a2 fv.len c2] 26)).heap.size := by simp
  have HV5 : Hid (RowBox w4.heap.size (.mk kv bv nv sv lv fv) (w4.alloc (.cells #[.int .u8 kv, .bool bv, .int .i64 nv, .string sv, .slice a1 lv.len c1, .slice a2 fv.len c2] 26)) (.int .u8 kv) (.bool bv) (.int .i64 nv) (.string sv) (.slice a1 lv.len c1) (.slice a2 fv.len c2)) := Lib.hid ⟨heap_last _ _, RV.grow (RV.keep (Same.of_below (Below.refl _ _)) (Nat.zero_le _) (Nat.le_refl _) _ _ HV4.out) (below_new _)⟩
  generalize w4.alloc (.cells #[.int .u8 kv, .bool bv, .int .i64 nv, .string sv, .slice a1 lv.len c1, .slice a2 fv.len c2] 26) = W5 at *
  generalize w4.heap.size = g1 at *
  clear hb5 HB4 HV4 HX3 HY3 HB3 HEV1
  obtain ⟨y0, y1, y2, y3, y4, y5, y6⟩ := cells6 HY5.out.1
  go_upto_region 7 with (go_at_call 13; (with_reducible refine (HEV2.out _ HB5.out).mono ?_); intro e w6 hev; obtain ⟨hb6, a3, c3, a4, c4, rfl, hv6⟩ := hev.parts; have HB6 := Lib.hid hb6; have HV6 := Lib.hid hv6; clear hev hb6 hv6)
  clear y0 y1 y2 y3 y4 y5 y6
  have hb7 := below_call0 HB6.out HB6.out.size (below_new (w := w6) (.cells #[.int .u8 ku, .bool bu, .int .i64 nu, .string su, .slice a3 lu.len c3, .slice a4 fu.len c4] 26))
  have HB7 := Lib.hid (below_call0 HB5.out HB5.out.size hb7)
  have HV7 := Lib.hid (HV5.out.keep hb7)
  have HU7 : Hid (RowBox w6.heap.size (.mk ku bu nu su lu fu) (w6.alloc (.cells #[.int .u8 ku, .bool bu, .int .i64 nu, .string su, .slice a3 lu.len c3, .slice a4 fu.len c4] 26)) (.int .u8 ku) (.bool bu) (.int .i64 nu) (.string su) (.slice a3 lu.len c3) (.slice a4 fu.len c4)) := Lib.hid ⟨heap_last _ _, RV.grow (RV.keep (Same.of_below (Below.refl _ _)) (Nat.zero_le _) (Nat.le_refl _) _ _ HV6.out) (below_new _)⟩
  generalize w6.alloc (.cells #[.int .u8 ku, .bool bu, .int .i64 nu, .string su, .slice a3 lu.len c3, .slice a4 fu.len c4] 26) = W7 at *
  generalize w6.heap.size = g2 at *
  clear hb7 HB6 HV6 HY5 HB5 HEV2 HV5 hg5
  go_upto_region 8 with (go_at_call 18; (with_reducible refine (HLT.out _ HB7.out).mono ?_); rintro e w8 ⟨hb8, hlit⟩; obtain rfl := hlit; have HB8 := Lib.hid hb8; clear hb8)
  have hb9 := below_call0 HB8.out HB8.out.size (below_new (w := w8) (.cells #[.int .u8 kl, .bool bl, .int .i64 nl, .string sl, .slice none 0 0, .slice none 0 0] 26))
  have HB9 := Lib.hid (below_call0 HB7.out HB7.out.size hb9)
  have HV9 := Lib.hid (HV7.out.keep hb9)
  have HU9 := Lib.hid (HU7.out.keep hb9)
  have HL9 := Lib.hid (heap_last w8 (.cells #[.int .u8 kl, .bool bl, .int .i64 nl, .string sl, .slice none 0 0, .slice none 0 0] 26))
  generalize w8.alloc (.cells #[.int .u8 kl, .bool bl, .int .i64 nl, .string sl, .slice none 0 0, .slice none 0 0] 26) = W9 at *
  generalize w8.heap.size = g3 at *
  clear hb9 HB8 HV7 HU7 HB7 HLT
  obtain ⟨v0, v1, v2, v3, v4, v5, v6⟩ := cells6 HV9.out.1
  obtain ⟨u0, u1, u2, u3, u4, u5, u6⟩ := cells6 HU9.out.1
  obtain ⟨l0, l1, l2, l3, l4, l5, l6⟩ := cells6 HL9.out
  have hs9 := Same_any (.mk kl bl nl sl .nil .nil) _ W9 [.int .u8 kl, .bool bl, .int .i64 nl, .string sl, .slice none 0 0, .slice none 0 0] _ W9.heap.size (lit_rv (t := .mk kv bv nv sv lv fv) HVV.out HV9.out.2) HV9.out.2 (Nat.le_refl _)
  rw [HSL.out] at hs9
  have HS9 := Lib.hid hs9
  clear hs9
  go_upto_region 10 with (go_at_call 15; (with_reducible refine (HS9.out).mono ?_); rintro e w10 ⟨rfl, hb10⟩; have HBS := Lib.hid hb10; clear hb10; clear v0 v1 v2 v3 v4 v5 v6 u0 u1 u2 u3 u4 u5 u6 l0 l1 l2 l3 l4 l5 l6; obtain ⟨l0, l1, l2, l3, l4, l5, l6⟩ := cells6 (blk HBS.out HL9.out))
  have HB10 := Lib.hid (below_call0 HB9.out HB9.out.size HBS.out)
  have HV10 := Lib.hid (HV9.out.keep HBS.out)
  have HU10 := Lib.hid (HU9.out.keep HBS.out)
  clear HBS HV9 HU9 HB9
  cases rb with
  | false =>
    go_wp2_with (go_at_call 19; (with_reducible refine (HRT.out _ HB10.out).mono ?_); rintro e w11 ⟨rfl, hb11⟩; have HB11 := Lib.hid (below_call0 HB10.out HB10.out.size hb11); clear hb11)
    go_ret
    exact ⟨rfl, HB11.out⟩
  | true =>
    cases cb with
    | false =>
      go_wp2_with (first | (go_at_call 19; (with_reducible refine (HRT.out _ HB10.out).mono ?_); rintro e w11 ⟨rfl, hb11⟩; have HB11 := Lib.hid (below_call0 HB10.out HB10.out.size hb11); clear hb11) | (go_at_call 20; (with_reducible refine (HCD.out _ HB11.out).mono ?_); rintro e w12 ⟨rfl, hb12⟩; have HB12 := Lib.hid (below_call0 HB11.out HB11.out.size hb12); clear hb12))
      go_ret
      exact ⟨rfl, HB12.out⟩
    | true =>
      obtain ⟨heq, hsm⟩ := HCL.out rfl rfl
      subst heq
      have HSM := Lib.hid hsm
      clear hsm
      go_wp2_with (first | (go_at_call 19; (with_reducible refine (HRT.out _ HB10.out).mono ?_); rintro e w11 ⟨rfl, hb11⟩; have HB11 := Lib.hid (below_call0 HB10.out HB10.out.size hb11); have HV11 := Lib.hid (HV10.out.keep hb11); have HU11 := Lib.hid (HU10.out.keep hb11); clear hb11) | (go_at_call 20; (with_reducible refine (HCD.out _ HB11.out).mono ?_); rintro e w12 ⟨rfl, hb12⟩; have HB12 := Lib.hid (below_call0 HB11.out HB11.out.size hb12); have HV12 := Lib.hid (HV11.out.keep hb12); have HU12 := Lib.hid (HU11.out.keep hb12); clear hb12; obtain ⟨v0, v1, v2, v3, v4, v5, v6⟩ := cells6 HV12.out.1; obtain ⟨u0, u1, u2, u3, u4, u5, u6⟩ := cells6 HU12.out.1; have hs0 := Same_any _ _ _ _ _ _ HV12.out.2 HU12.out.2 (Nat.le_refl _); rw [HSM.out] at hs0; have HS0 := Lib.hid hs0; clear hs0) | (go_at_call 15; (with_reducible refine (HS0.out).mono ?_); rintro e w13 ⟨rfl, hb13⟩; have HB13 := Lib.hid (below_call0 HB12.out HB12.out.size hb13); clear hb13))
      go_ret
      exact ⟨rfl, HB13.out⟩
end Go.Proofs.YtgjgllfeinjpnaaGreatDoor
/- codicillaw11.ExprConstants by one contract. -/
namespace Go.Proofs.YtgjgllfeinjpnaaGreatDoor
open Go.RowKit
set_option linter.unusedSimpArgs false
set_option linter.unusedVariables false
theorem lit_nil {l : List ST} {v : VT} (h : litO l = some v) : ∃ k b n s, v = .mk k b n s .nil .nil := by
  unfold litO at h
  split at h
  · cases l with
    | nil => cases h
    | cons s r =>
      simp only at h
      cases hf : firstO s with
      | none => rw [hf] at h; cases h
      | some u =>
        rw [hf] at h
        obtain ⟨k, b, n, t, rfl, _⟩ := first_parts hf
        simp only at h
        split at h
        · cases h
        · split at h
          · exact ⟨_, _, _, _, (Option.some.inj h).symm⟩
          · split at h
            · exact ⟨_, _, _, _, (Option.some.inj h).symm⟩
            · cases h
  · cases h
theorem const_calls (l : List ST) (A0 : Option Addr) (c0 : Nat) (rx ry : VT) (r0 r1 r2 r3 r4 r5 q0 q1 q2 q3 q4 q5 : Value) (w : World) (hL : Laid w) (hcap : l.length ≤ c0) (hlen : l.length ≤ LIM) (hst : ∀ s ∈ l, StOk s) (hrow : RowS w l A0) (hrx : RV w 0 w.heap.size rx [r0, r1, r2, r3, r4, r5]) (hry : RV w 0 w.heap.size ry [q0, q1, q2, q3, q4, q5]) :
    Calls Tryz.prog 8 #[.slice A0 l.length c0, .agg #[r0, r1, r2, r3, r4, r5], .agg #[q0, q1, q2, q3, q4, q5]] w fun e w' => e = .returned (.bool true) ∧ Below w.heap.size w w' := by
  by_cases hcx : checkV rx 0 = 0
  · by_cases hcy : checkV ry 0 = 0
    · obtain ⟨⟨⟨kv, bv, nv, sv, lv, fv⟩, ev⟩, he⟩ : ∃ r, evalE l rx = r := ⟨_, rfl⟩
      obtain ⟨⟨⟨ku, bu, nu, su, lu, fu⟩, eu⟩, hu⟩ : ∃ r, evalE l ry = r := ⟨_, rfl⟩
      cases hli : litO l with
      | none => exact constN_calls l A0 c0 rx ry r0 r1 r2 r3 r4 r5 q0 q1 q2 q3 q4 q5 w hL hcap hlen hst hrow hrx hry hcx hcy kv bv nv sv lv fv ev he ku bu nu su lu fu eu hu hli
      | some v =>
        obtain ⟨kl, bl, nl, sl, rfl⟩ := lit_nil hli
        obtain ⟨h1, h2⟩ := lit_eval hst hli hcx
        rw [he] at h1
        have hvv : VT.mk kv bv nv sv lv fv = .mk kl bl nl sl .nil .nil := congrArg Prod.fst h1
        have hev : ev = 0 := congrArg Prod.snd h1
        have hk : (kl == 0) = false := by
          have : kl ≠ 0 := h2
          simpa using this
        exact constS_calls l A0 c0 rx ry r0 r1 r2 r3 r4 r5 q0 q1 q2 q3 q4 q5 w hL hcap hlen hst hrow hrx hry hcx hcy kv bv nv sv lv fv ev he ku bu nu su lu fu eu hu kl bl nl sl hli hvv hev hk
    · exact constY_calls l A0 c0 rx ry r0 r1 r2 r3 r4 r5 q0 q1 q2 q3 q4 q5 w hL hcap hlen hst hrow hrx hry _ hcx rfl (by simpa using hcy)
  · exact constX_calls l A0 c0 rx ry r0 r1 r2 r3 r4 r5 q0 q1 q2 q3 q4 q5 w hL hcap hlen hst hrow hrx hry _ rfl (by simpa using hcx)
end Go.Proofs.YtgjgllfeinjpnaaGreatDoor
