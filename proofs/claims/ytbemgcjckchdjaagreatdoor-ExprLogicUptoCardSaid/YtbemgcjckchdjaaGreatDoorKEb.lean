import Derived.Test.YtbemgcjckchdjaaGreatDoorKEa
/- Rows of values asked by a function value: slices.IndexFunc, ContainsFunc over values. -/
namespace Go.Proofs.YtbemgcjckchdjaaGreatDoor
open Go.RowKit
set_option linter.unusedSimpArgs false
set_option linter.unusedVariables false
/-- a row of values in memory -/
def ValRow (w : World) (l : VL) (a : Option Addr) : Prop := l.len = 0 ∨ ∃ b o, a = some ⟨b, o, none⟩ ∧ b < w.heap.size ∧ RL w 0 w.heap.size l b o
theorem ValRow.keep {w w' : World} {l : VL} {a : Option Addr} (h : ValRow w l a) (hb : Below w.heap.size w w') : ValRow w' l a := by
  rcases h with h | ⟨b, o, e, hlt, hr⟩
  · exact Or.inl h
  · exact Or.inr ⟨b, o, e, Nat.lt_of_lt_of_le hlt hb.size, RL.keep (Same.of_below hb) (Nat.le_refl _) hb.size l b o hlt hr⟩
theorem RV.grow {w w' : World} {t : VT} {cs : List Value} (h : RV w 0 w.heap.size t cs) (hb : Below w.heap.size w w') : RV w' 0 w'.heap.size t cs := RV.keep (Same.of_below hb) (Nat.le_refl _) hb.size t cs h
/-- a function value that asks something of a value -/
def Asks (fo : FuncId) (g : VT → Bool) : Prop := (∀ (args : Array Value) (w : World), (callFunc fo args).run Tryz.prog w = .ok (.enter fo args) w) ∧ ∀ (t : VT) (v0 v1 v2 v3 v4 v5 : Value) (w : World), RV w 0 w.heap.size t [v0, v1, v2, v3, v4, v5] → Calls Tryz.prog fo #[.agg #[v0, v1, v2, v3, v4, v5]] w fun e w' => e = .returned (.bool (g t)) ∧ Below w.heap.size w w'
theorem isNull_asks : Asks 221 (fun v => v.kind == 0) := by
  refine ⟨fun args w => Tryz.call221 args w, fun t v0 v1 v2 v3 v4 v5 w hv => ?_⟩
  obtain ⟨k, b, n, s, l, f, a1, c1, a2, c2, rfl, e, hl, hf, _⟩ := RV.mk_parts hv
  simp only [List.cons.injEq, and_true] at e
  obtain ⟨rfl, rfl, rfl, rfl, rfl, rfl⟩ := e
  show Calls Tryz.prog 221 _ w fun e w' => e = .returned (.bool (k == 0)) ∧ Below w.heap.size w w'
  clear hv
  go_enter Tryz.func221, Tryz.ntmps221
  go_wp2_with fail
  go_ret
  exact ⟨rfl, below_new _⟩
theorem notInt_asks : Asks 225 (fun v => !(v.kind == 2)) := by
  refine ⟨fun args w => Tryz.call225 args w, fun t v0 v1 v2 v3 v4 v5 w hv => ?_⟩
  obtain ⟨k, b, n, s, l, f, a1, c1, a2, c2, rfl, e, hl, hf, _⟩ := RV.mk_parts hv
  simp only [List.cons.injEq, and_true] at e
  obtain ⟨rfl, rfl, rfl, rfl, rfl, rfl⟩ := e
  show Calls Tryz.prog 225 _ w fun e w' => e = .returned (.bool (!(k == 2))) ∧ Below w.heap.size w w'
  clear hv
  go_enter Tryz.func225, Tryz.ntmps225
  go_wp2_with fail
  go_ret
  exact ⟨rfl, below_new _⟩
/-- the first of which it is so -/
def idxV (g : VT → Bool) : VL → Nat → Int
  | .nil, _ => -1
  | .cons t r, i => if g t then i else idxV g r (i + 1)
def VL.any (g : VT → Bool) : VL → Bool
  | .nil => false
  | .cons t r => g t || r.any g
theorem idxV_any (g : VT → Bool) : ∀ (l : VL) (i : Nat), decide (0 ≤ idxV g l i) = l.any g
  | .nil, i => rfl
  | .cons t r, i => by
    unfold idxV VL.any
    cases g t with
    | true => simp
    | false => simpa using idxV_any g r (i + 1)
theorem any_toVL (g : VT → Bool) : ∀ l : List VT, (toVL l).any g = l.any g
  | [] => rfl
  | t :: r => by show (g t || (toVL r).any g) = (g t || r.any g); rw [any_toVL g r]
theorem len_toVL : ∀ l : List VT, (toVL l).len = l.length
  | [] => rfl
  | t :: r => by show (toVL r).len + 1 = r.length + 1; rw [len_toVL r]
theorem get_toVL : ∀ (l : List VT) (i : Nat), (toVL l).get? i = l[i]?
  | [], i => rfl
  | t :: r, 0 => rfl
  | t :: r, i + 1 => by rw [List.getElem?_cons_succ]; exact get_toVL r i
set_option maxHeartbeats 1000000 in
set_option maxRecDepth 100000 in
theorem indexV_calls (fo : FuncId) (g : VT → Bool) (hg : Asks fo g) (l : VL) (a : Option Addr) (c : Nat) (w : World) (hlen : l.len ≤ LIM) (hr : ValRow w l a) :
    Calls Tryz.prog 224 #[.slice a l.len c, .func (.func fo) #[] #[]] w fun e w' => e = .returned (.int .i64 (idxV g l 0)) ∧ Below w.heap.size w w' := by
  obtain ⟨z, hz⟩ : ∃ z, idxV g l 0 = z := ⟨_, rfl⟩
  rw [hz]
  have HZ : Hid (idxV g (l.drop 0) 0 = z) := Lib.hid (by cases l <;> exact hz)
  have HR := Lib.hid hr
  have HG := Lib.hid hg
  have hcf := hg.1
  unfold LIM at hlen
  clear hz hr hg
  go_enter Tryz.func224, Tryz.ntmps224
  go_wp2_with fail
  go_loopw [8] (fun s8 wr => ∃ i : Nat, s8 = .int .i64 i ∧ i ≤ l.len ∧ Hid (idxV g (l.drop i) i = z) ∧ Below w.heap.size w wr) (fun s8 _ => l.len - (intOf s8).toNat)
  case atStart => exact ⟨0, rfl, Nat.zero_le _, HZ, Below.refl _ _⟩
  case round =>
    obtain ⟨i, rfl, hil, HH, hx⟩ := hrel
    have HX := Lib.hid hx
    clear hx HZ
    by_cases hlt : i < l.len
    · rcases HR.out.keep HX.out with h0 | ⟨b, o, rfl, hb2, hc⟩
      · omega
      obtain ⟨t, ht⟩ := VL.get?_lt l i hlt
      obtain ⟨v0, v1, v2, v3, v4, v5, d0, d1, d2, d3, d4, d5, hv⟩ := RL.at l b o i t hc ht
      have hh := HH.out
      rw [VL.drop_step l i t ht, idxV] at hh
      obtain ⟨k, bb, n, s, l', f, a1, c1, a2, c2, rfl, e, hl, hf, _⟩ := RV.mk_parts hv
      simp only [List.cons.injEq, and_true] at e
      obtain ⟨rfl, rfl, rfl, rfl, rfl, rfl⟩ := e
      have HN := Lib.hid (HG.out.2 _ _ _ _ _ _ _ wr hv)
      clear hc HH hv ht hl hf
      generalize g (.mk k bb n s l' f) = y at *
      cases y with
      | false =>
        rw [if_neg (by simp)] at hh
        have HHH := Lib.hid hh
        clear hh
        go_wp2_with ((with_reducible refine (HN.out).mono ?_); rintro e w7 ⟨rfl, hb⟩)
        go_roundw
        case rel => exact ⟨i + 1, by go_num, by omega, HHH, below_call0 HX.out HX.out.size hb⟩
        case measure => simp [intOf]; omega
      | true =>
        rw [if_pos rfl] at hh
        have HHH := Lib.hid hh
        clear hh
        go_wp2_with ((with_reducible refine (HN.out).mono ?_); rintro e w7 ⟨rfl, hb⟩)
        go_ret
        exact ⟨ret_eq HHH.out, below_call0 HX.out HX.out.size hb⟩
    · have hh := HH.out
      rw [VL.drop_len l i (by omega), idxV] at hh
      have HHH := Lib.hid hh
      clear hh HH
      go_wp2_with fail
      go_ret
      exact ⟨ret_eq HHH.out, HX.out⟩
theorem containsV_calls (fo : FuncId) (g : VT → Bool) (hg : Asks fo g) (l : VL) (a : Option Addr) (c : Nat) (w : World) (hlen : l.len ≤ LIM) (hr : ValRow w l a) :
    Calls Tryz.prog 220 #[.slice a l.len c, .func (.func fo) #[] #[]] w fun e w' => e = .returned (.bool (l.any g)) ∧ Below w.heap.size w w' := by
  have H := Lib.hid (indexV_calls fo g hg l a c w hlen hr)
  have HE := Lib.hid (idxV_any g l 0)
  generalize idxV g l 0 = z at *
  clear hlen hr hg
  go_enter Tryz.func220, Tryz.ntmps220
  go_wp2_with (go_at_call 224; refine (H.out).mono ?_; rintro e w7 ⟨rfl, hb⟩)
  go_ret
  exact ⟨ret_b HE.out, hb⟩
end Go.Proofs.YtbemgcjckchdjaaGreatDoor
/- expr.counted, expr.held. -/
namespace Go.Proofs.YtbemgcjckchdjaaGreatDoor
open Go.RowKit
set_option linter.unusedSimpArgs false
set_option linter.unusedVariables false
abbrev zeroV : Value := .agg #[.int .u8 0, .bool false, .int .i64 0, .string ⟨#[]⟩, .slice none 0 0, .slice none 0 0]
abbrev zeroO : Obj := .cells #[.int .u8 0, .bool false, .int .i64 0, .string ⟨#[]⟩, .slice none 0 0, .slice none 0 0] 27
/-- what an evaluation hands back -/
def EvPost (w : World) (r : Rz) (x : Ending) (w' : World) : Prop :=
  Below w.heap.size w w' ∧ ∃ v0 v1 v2 v3 v4 v5, x = .returned (.tuple #[.agg #[v0, v1, v2, v3, v4, v5], .int .i64 r.2]) ∧ RV w' w.heap.size w'.heap.size r.1 [v0, v1, v2, v3, v4, v5]
theorem rv_null (w : World) {lo hi : Nat} : RV w lo hi nullV [.int .u8 0, .bool false, .int .i64 0, .string ⟨#[]⟩, .slice none 0 0, .slice none 0 0] := by
  unfold RV
  exact ⟨none, 0, none, 0, rfl, by omega, by unfold I64; omega, by decide, by decide, by decide, by decide, by decide, Or.inl rfl, Or.inl rfl⟩
theorem rv_truth (b : Bool) (w : World) {lo hi : Nat} : RV w lo hi (truthV b) [.int .u8 1, .bool b, .int .i64 0, .string ⟨#[]⟩, .slice none 0 0, .slice none 0 0] := by
  unfold RV
  exact ⟨none, 0, none, 0, rfl, by omega, by unfold I64; omega, by decide, by decide, by decide, by decide, by decide, Or.inl rfl, Or.inl rfl⟩
theorem rv_int (n : Int) (hn : I64 n) (w : World) {lo hi : Nat} : RV w lo hi (intV n) [.int .u8 2, .bool false, .int .i64 n, .string ⟨#[]⟩, .slice none 0 0, .slice none 0 0] := by
  unfold RV
  exact ⟨none, 0, none, 0, rfl, by omega, hn, by decide, by decide, by decide, by decide, by decide, Or.inl rfl, Or.inl rfl⟩
theorem rv_text (s : ByteArray) (hs : s.size ≤ LIM) (w : World) {lo hi : Nat} : RV w lo hi (textV s) [.int .u8 3, .bool false, .int .i64 0, .string s, .slice none 0 0, .slice none 0 0] := by
  unfold RV
  exact ⟨none, 0, none, 0, rfl, by omega, by unfold I64; omega, hs, by decide, by decide, by decide, by decide, Or.inl rfl, Or.inl rfl⟩
theorem ev_null {w w' : World} {e : Int} (hb : Below w.heap.size w w') : EvPost w (nullV, e) (.returned (.tuple #[zeroV, .int .i64 e])) w' := ⟨hb, _, _, _, _, _, _, rfl, rv_null w'⟩
theorem ev_truth {w w' : World} {b : Bool} (hb : Below w.heap.size w w') : EvPost w (truthV b, 0) (.returned (.tuple #[.agg #[.int .u8 1, .bool b, .int .i64 0, .string ⟨#[]⟩, .slice none 0 0, .slice none 0 0], .int .i64 0])) w' := ⟨hb, _, _, _, _, _, _, rfl, rv_truth b w'⟩
theorem ev_int {w w' : World} {n : Int} (hn : I64 n) (hb : Below w.heap.size w w') : EvPost w (intV n, 0) (.returned (.tuple #[.agg #[.int .u8 2, .bool false, .int .i64 n, .string ⟨#[]⟩, .slice none 0 0, .slice none 0 0], .int .i64 0])) w' := ⟨hb, _, _, _, _, _, _, rfl, rv_int n hn w'⟩
theorem RV.num {w : World} {lo hi : Nat} {t : VT} {v0 v1 v2 v3 v4 v5 : Value} (h : RV w lo hi t [v0, v1, v2, v3, v4, v5]) : v0 = .int .u8 t.kind ∧ v1 = .bool t.bool ∧ v2 = .int .i64 t.num ∧ I64 t.num ∧ 0 ≤ t.kind ∧ t.kind ≤ 255 := by
  cases t with
  | mk k b n s l f =>
    unfold RV at h
    obtain ⟨a1, c1, a2, c2, e, hk, hn, _⟩ := h
    simp only [List.cons.injEq, and_true] at e
    obtain ⟨rfl, rfl, rfl, rfl, rfl, rfl⟩ := e
    exact ⟨rfl, rfl, rfl, hn, hk.1, hk.2⟩
/-- two values behind one another -/
theorem two_vals {w : World} {x y : VT} {a : Option Addr} (h : ValRow w (toVL [x, y]) a) : ∃ b o, a = some ⟨b, o, none⟩ ∧ b < w.heap.size ∧ (∃ v0 v1 v2 v3 v4 v5, w.cell? ⟨b, o, none⟩ = some v0 ∧ w.cell? ⟨b, o + 1, none⟩ = some v1 ∧ w.cell? ⟨b, o + 2, none⟩ = some v2 ∧ w.cell? ⟨b, o + 3, none⟩ = some v3 ∧ w.cell? ⟨b, o + 4, none⟩ = some v4 ∧ w.cell? ⟨b, o + 5, none⟩ = some v5 ∧ RV w 0 w.heap.size x [v0, v1, v2, v3, v4, v5]) ∧
    (∃ v0 v1 v2 v3 v4 v5, w.cell? ⟨b, o + 6, none⟩ = some v0 ∧ w.cell? ⟨b, o + 6 + 1, none⟩ = some v1 ∧ w.cell? ⟨b, o + 6 + 2, none⟩ = some v2 ∧ w.cell? ⟨b, o + 6 + 3, none⟩ = some v3 ∧ w.cell? ⟨b, o + 6 + 4, none⟩ = some v4 ∧ w.cell? ⟨b, o + 6 + 5, none⟩ = some v5 ∧ RV w 0 w.heap.size y [v0, v1, v2, v3, v4, v5]) := by
  rcases h with h | ⟨b, o, e, hlt, hr⟩
  · cases h
  · unfold toVL toVL RL RL at hr
    exact ⟨b, o, e, hlt, hr.1, hr.2.1⟩
theorem truth_keeps {w w' : World} (h : Below w.heap.size w w') {g : Nat} {x : Obj} (hx : w.heap[g]? = some x) : w'.heap[g]? = some x := blk h hx
set_option maxHeartbeats 1000000 in
set_option maxRecDepth 100000 in
theorem counted_type (k : Int) (x y : VT) (a : Option Addr) (c : Nat) (w : World) (hr : ValRow w (toVL [x, y]) a) (ht : ((toVL [x, y]).any fun v => !(v.kind == 2)) = true) :
    Calls Tryz.prog 222 #[.int .u8 k, .slice a 2 c] w (EvPost w (nullV, 5)) := by
  have hb0 := below_new (w := w) zeroO
  have H0 := containsV_calls _ _ notInt_asks (toVL [x, y]) a c _ (show 2 ≤ LIM by decide) (hr.keep hb0)
  rw [ht] at H0
  have H := Lib.hid H0
  have HZ := Lib.hid (heap_last w zeroO)
  have HB0 := Lib.hid hb0
  clear H0 hr ht hb0
  go_enter Tryz.func222, Tryz.ntmps222
  go_wp2_with (go_at_call 220; refine (H.out).mono ?_; rintro e w7 ⟨rfl, hb⟩; have hz := blk hb HZ.out; obtain ⟨z0, z1, z2, z3, z4, z5, z6⟩ := cells6 hz; have HB7 := Lib.hid (below_call0 HB0.out HB0.out.size hb); clear hb hz)
  refine bodyPost_ret (v := .tuple #[zeroV, .int .i64 5]) (by simp [results, Tryz.results222, go_sem, cell_set_same, z0, z1, z2, z3, z4, z5]) rfl ?_
  exact ev_null (setCells_below (Nat.le_refl _) [_, _, _, _, _, _] 0 _ HB7.out)
set_option maxHeartbeats 1000000 in
set_option maxRecDepth 100000 in
theorem counted_num (k : Int) (x y : VT) (a : Option Addr) (c : Nat) (w : World) (hk : k = 12 ∨ k = 13 ∨ k = 14) (hr : ValRow w (toVL [x, y]) a) (hc : 2 ≤ c) (ht : ((toVL [x, y]).any fun v => !(v.kind == 2)) = false) :
    Calls Tryz.prog 222 #[.int .u8 k, .slice a 2 c] w (EvPost w (match numZ k x.num y.num with | some n => (intV n, 0) | none => (nullV, 15))) := by
  have hb0 := below_new (w := w) zeroO
  have H0 := containsV_calls _ _ notInt_asks (toVL [x, y]) a c _ (show 2 ≤ LIM by decide) (hr.keep hb0)
  rw [ht] at H0
  have H := Lib.hid H0
  have HZ := Lib.hid (heap_last w zeroO)
  have HB0 := Lib.hid hb0
  obtain ⟨b, o, rfl, hlt, ⟨v0, v1, v2, v3, v4, v5, d0, d1, d2, d3, d4, d5, hx⟩, ⟨u0, u1, u2, u3, u4, u5, e0, e1, e2, e3, e4, e5, hy⟩⟩ := two_vals hr
  obtain ⟨_, _, rfl, hn1, _⟩ := hx.num
  obtain ⟨_, _, rfl, hn2, _⟩ := hy.num
  have HN := Lib.hid (fun w' => numz_any k x.num y.num w' hk hn1 hn2)
  have HI := Lib.hid (numW_i64 k x.num y.num)
  rw [numZ_eq]
  generalize x.num = m1 at *
  generalize y.num = m2 at *
  generalize numW k m1 m2 = m at *
  generalize numOk k m1 m2 = ok at *
  clear H0 hr ht hb0 hx hy hn1 hn2 d0 d1 d3 d4 d5 e0 e1 e3 e4 e5 hk
  go_enter Tryz.func222, Tryz.ntmps222
  cases ok with
  | false =>
    go_wp2_with (go_at_call 220; refine (H.out).mono ?_; rintro e w7 ⟨rfl, hb⟩; have hz := blk hb HZ.out; have D2 := keepC hb (keepC HB0.out d2); have E2 := keepC hb (keepC HB0.out e2); have HZ7 := Lib.hid hz; have HB7 := Lib.hid (below_call0 HB0.out HB0.out.size hb); clear hb hz)
    go_quiet ((go_at_call 226; exact Calls.quiet_of_same (HN.out _)))
    have hz : (w7.drewN nq).heap[w.heap.size]? = some zeroO := HZ7.out
    have HB8 := Lib.hid (below_call0 HB7.out HB7.out.size (below_drewN w7 nq))
    generalize w7.drewN nq = w8 at *
    obtain ⟨z0, z1, z2, z3, z4, z5, z6⟩ := cells6 hz
    clear hz D2 E2 HZ7 HB7 d2 e2
    go_wp2_with fail
    refine bodyPost_ret (v := .tuple #[zeroV, .int .i64 15]) (by simp [results, Tryz.results222, go_sem, cell_set_same, z0, z1, z2, z3, z4, z5]) rfl ?_
    exact ev_null (setCells_below (Nat.le_refl _) [_, _, _, _, _, _] 0 _ HB8.out)
  | true =>
    go_wp2_with (go_at_call 220; refine (H.out).mono ?_; rintro e w7 ⟨rfl, hb⟩; have hz := blk hb HZ.out; have D2 := keepC hb (keepC HB0.out d2); have E2 := keepC hb (keepC HB0.out e2); have HZ7 := Lib.hid hz; have HB7 := Lib.hid (below_call0 HB0.out HB0.out.size hb); clear hb hz)
    go_quiet ((go_at_call 226; exact Calls.quiet_of_same (HN.out _)))
    have hz : (w7.drewN nq).heap[w.heap.size]? = some zeroO := HZ7.out
    have HB8 := Lib.hid (below_call0 HB7.out HB7.out.size (below_drewN w7 nq))
    generalize w7.drewN nq = w8 at *
    obtain ⟨z0, z1, z2, z3, z4, z5, z6⟩ := cells6 hz
    clear hz D2 E2 HZ7 HB7 d2 e2
    go_wp2_with fail
    refine bodyPost_ret (v := .tuple #[.agg #[.int .u8 2, .bool false, .int .i64 m, .string ⟨#[]⟩, .slice none 0 0, .slice none 0 0], .int .i64 0]) (by simp [results, Tryz.results222, go_sem, cell_set_same, z0, z1, z2, z3, z4, z5]) rfl ?_
    exact ev_int HI.out (setCells_below (Nat.le_refl _) [_, _, _, _, _, _] 0 _ HB8.out)
theorem counted_calls (k : Int) (x y : VT) (a : Option Addr) (c : Nat) (w : World) (hk : k = 12 ∨ k = 13 ∨ k = 14) (hr : ValRow w (toVL [x, y]) a) (hc : 2 ≤ c) :
    Calls Tryz.prog 222 #[.int .u8 k, .slice a 2 c] w (EvPost w (countedR k x y)) := by
  have e : ((toVL [x, y]).any fun v => !(v.kind == 2)) = (!(x.kind == 2) || (!(y.kind == 2) || false)) := rfl
  unfold countedR
  by_cases h : x.kind = 2 ∧ y.kind = 2
  · rw [if_pos h]
    exact counted_num k x y a c w hk hr hc (by rw [e]; simp [h.1, h.2])
  · rw [if_neg h]
    refine counted_type k x y a c w hr ?_
    rw [e]
    by_cases h1 : x.kind = 2
    · have h2 : ¬ y.kind = 2 := fun h2 => h ⟨h1, h2⟩
      simp [h1, h2]
    · simp [h1]
end Go.Proofs.YtbemgcjckchdjaaGreatDoor
