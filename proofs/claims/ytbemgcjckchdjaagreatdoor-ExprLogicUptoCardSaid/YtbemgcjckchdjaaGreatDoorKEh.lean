import Derived.Test.YtbemgcjckchdjaaGreatDoorKEe
/- expr.all. -/
namespace Go.Proofs.YtbemgcjckchdjaaGreatDoor
open Go.RowKit
set_option linter.unusedSimpArgs false
set_option linter.unusedVariables false
/-- a row of nodes -/
def NodeRow (S : Nat → Prop) (w : World) (fs : List (VT → Rz)) (a : Option Addr) : Prop :=
  fs.length = 0 ∨ ∃ b o, a = some ⟨b, o, none⟩ ∧ b < w.heap.size ∧ ¬ S b ∧ ∀ i (h : i < fs.length), ∃ v, w.cell? ⟨b, o + i, none⟩ = some v ∧ Node S w v fs[i]
theorem NodeRow.later {S : Nat → Prop} {w w' : World} {fs : List (VT → Rz)} {a : Option Addr} (h : NodeRow S w fs a) (hl : Later S w w') : NodeRow S w' fs a := by
  rcases h with h | ⟨b, o, e, hlt, hs, hc⟩
  · exact Or.inl h
  · refine Or.inr ⟨b, o, e, Nat.lt_of_lt_of_le hlt hl.1, hs, fun i hi => ?_⟩
    obtain ⟨v, hv, hn⟩ := hc i hi
    exact ⟨v, (World.cell?_of_block (a := ⟨b, o + i, none⟩) (hl.2 b hlt hs)).trans hv, hn.later hl⟩
def AllPost (w : World) (r : Except Int (List VT)) (x : Ending) (w' : World) : Prop :=
  Below w.heap.size w w' ∧ match r with
  | .error e => x = .returned (.tuple #[.slice none 0 0, .int .i64 e])
  | .ok vs => ∃ A c, x = .returned (.tuple #[.slice A vs.length c, .int .i64 0]) ∧ vs.length ≤ c ∧ (vs.length = 0 ∨ ∃ b, A = some ⟨b, 0, none⟩ ∧ w.heap.size ≤ b ∧ b < w'.heap.size ∧ RL w' w.heap.size w'.heap.size (toVL vs) b 0)
/-- .. what it hands back reads as values, whatever they share -/
def AllPostV (w : World) (r : Except Int (List VT)) (x : Ending) (w' : World) : Prop :=
  Below w.heap.size w w' ∧ match r with
  | .error e => x = .returned (.tuple #[.slice none 0 0, .int .i64 e])
  | .ok vs => ∃ A c, x = .returned (.tuple #[.slice A vs.length c, .int .i64 0]) ∧ vs.length ≤ c ∧ (vs.length = 0 ∨ ∃ b, A = some ⟨b, 0, none⟩ ∧ w.heap.size ≤ b ∧ b < w'.heap.size ∧ RL w' 0 w'.heap.size (toVL vs) b 0)
theorem AllPost.weak {w w' : World} {r : Except Int (List VT)} {x : Ending} (h : AllPost w r x w') : AllPostV w r x w' := by
  cases r with
  | error e => exact h
  | ok vs =>
    obtain ⟨hb, A, c, e, hc, hr⟩ := h
    refine ⟨hb, A, c, e, hc, ?_⟩
    rcases hr with h0 | ⟨b, e2, h1, h2, h3⟩
    · exact Or.inl h0
    · exact Or.inr ⟨b, e2, h1, h2, RL.keep (fun _ _ _ => rfl) (Nat.zero_le _) (Nat.le_refl _) _ b 0 h2 h3⟩
theorem allR_cons (x : Rz) (l : List Rz) : allR (x :: l) = if x.2 ≠ 0 then Except.error x.2 else match allR l with | Except.error e => Except.error e | Except.ok vs => Except.ok (x.1 :: vs) := rfl
theorem allR_snoc (r : Rz) : ∀ l : List Rz, allR (l ++ [r]) = match allR l with | Except.error e => Except.error e | Except.ok vs => if r.2 ≠ 0 then Except.error r.2 else Except.ok (vs ++ [r.1])
  | [] => by
    rw [List.nil_append, allR_cons]
    rfl
  | x :: l => by
    rw [List.cons_append, allR_cons, allR_cons, allR_snoc r l]
    by_cases hx : x.2 ≠ 0
    · simp only [if_pos hx]
    · simp only [if_neg hx]
      cases allR l with
      | error e => rfl
      | ok vs =>
        by_cases hr : r.2 ≠ 0
        · simp only [if_pos hr]
        · simp only [if_neg hr]; rfl
theorem allR_stop (m : List Rz) (e : Int) : ∀ l : List Rz, allR l = Except.error e → allR (l ++ m) = Except.error e
  | [], h => by cases h
  | x :: l, h => by
    rw [allR_cons] at h
    rw [List.cons_append, allR_cons]
    by_cases hx : x.2 ≠ 0
    · rw [if_pos hx] at h ⊢; exact h
    · rw [if_neg hx] at h ⊢
      cases hl : allR l with
      | error e' => rw [hl] at h; cases h; rw [allR_stop m _ l hl]
      | ok vs => rw [hl] at h; cases h
theorem allR_length : ∀ (l : List Rz) (vs : List VT), allR l = Except.ok vs → vs.length = l.length
  | [], vs, h => by cases h; rfl
  | x :: l, vs, h => by
    rw [allR_cons] at h
    split at h
    · cases h
    · cases hl : allR l with
      | error e => rw [hl] at h; cases h
      | ok us => rw [hl] at h; cases h; simp [allR_length l us hl]
/-- where the evaluation of some nodes stands -/
def AllAt (w wr : World) (vs : List VT) (v : Value) (row : List Value) : Prop :=
  ∃ cs, wr.ownsRow (w.heap.size + 1) 27 6 v vs.length cs ∧ Vals wr (fun b => w.heap.size < b ∧ b < wr.heap.size ∧ v.ownBlock ≠ some b) vs cs ∧ Below w.heap.size w wr ∧ wr.heap[w.heap.size]? = some (.cells row.toArray 27 (0, 0))
theorem AllAt.old {w wr : World} {vs : List VT} {v : Value} {row : List Value} (h : AllAt w wr vs v row) : w.heap.size < wr.heap.size ∧ (∀ g, v.ownBlock = some g → w.heap.size < g ∧ g < wr.heap.size) := by
  obtain ⟨cs, hO, hV, hB, hX⟩ := h
  exact ⟨lt_of_block hX, fun g hg => by have := hO.lt g hg; omega⟩
theorem all_step {w wr w7 wz w2 : World} {vs : List VT} {v : Value} {cs row : List Value} {t : VT} {u0 u1 u2 u3 u4 u5 : Value} {g cap : Nat} (hO : wr.ownsRow (w.heap.size + 1) 27 6 v vs.length cs) (hV : Vals wr (fun b => w.heap.size < b ∧ b < wr.heap.size ∧ v.ownBlock ≠ some b) vs cs) (hB : Below w.heap.size w wr) (hX : wr.heap[w.heap.size]? = some (.cells row.toArray 27 (0, 0)))
    (hb7 : Below wr.heap.size wr w7) (hv : RV w7 wr.heap.size w7.heap.size t [u0, u1, u2, u3, u4, u5]) (hz : Below w7.heap.size w7 wz) (hgrow : wz.grownBy w2 v.ownBlock) (hown : w2.ownsRow (w.heap.size + 1) 27 6 (.slice (some ⟨g, 0, none⟩) (vs.length + 1) cap) (vs.length + 1) (cs ++ [u0, u1, u2, u3, u4, u5])) (hat : v.ownBlock = some g ∨ w7.heap.size ≤ g) :
    AllAt w w2 (vs ++ [t]) (.slice (some ⟨g, 0, none⟩) (vs.length + 1) cap) row := by
  have lX : w.heap.size < wr.heap.size := lt_of_block hX
  have s7 := hb7.size
  have sz := hz.size
  have s2 := hgrow.size
  have hvo : ∀ k, v.ownBlock = some k → w.heap.size < k ∧ k < wr.heap.size := fun k hk => by have := hO.lt k hk; omega
  have blk2 : ∀ b, b < w7.heap.size → v.ownBlock ≠ some b → w2.heap[b]? = w7.heap[b]? := fun b hb hne => (hgrow.block b (by omega) (fun e => hne e.symm)).trans (hz.block b hb)
  have cel2 : ∀ b o, b < w7.heap.size → v.ownBlock ≠ some b → w2.cell? ⟨b, o, none⟩ = w7.cell? ⟨b, o, none⟩ := fun b o hb hne => World.cell?_of_block (a := ⟨b, o, none⟩) (blk2 b hb hne)
  have hg : ∀ b, b < w7.heap.size → v.ownBlock ≠ some b → some g ≠ some b := fun b hb hne e => by
    cases e
    rcases hat with h | h
    · exact hne h
    · omega
  refine ⟨cs ++ [u0, u1, u2, u3, u4, u5], by rw [List.length_append]; exact hown, ?_, ?_, ?_⟩
  · refine Vals.snoc ?_ _ _ (Vals.keep (Q := fun b => w.heap.size < b ∧ b < wr.heap.size ∧ v.ownBlock ≠ some b) ?_ ?_ _ _ hV)
    · refine RQ.keep (Q := fun b => wr.heap.size ≤ b ∧ b < w7.heap.size) (fun b o hq => ?_) (fun b hq => ?_) t _ (RQ.of_rv t _ hv)
      · exact cel2 b o hq.2 (fun e => by have := hvo b e; omega)
      · exact ⟨by omega, by omega, hg b hq.2 (fun e => by have := hvo b e; omega)⟩
    · intro b o hq
      exact (cel2 b o (by omega) hq.2.2).trans (hb7.cell (p := ⟨b, o, none⟩) hq.2.1)
    · intro b hq
      exact ⟨hq.1, by omega, hg b (by omega) hq.2.2⟩
  · exact (below_call0 hB (by omega) hb7).trans ((hz.mono (by omega)).grown hgrow (by omega) (fun k hk => by have := hvo k hk; omega))
  · exact (blk2 w.heap.size (by omega) (fun e => by have := hvo _ e; omega)).trans (blk hb7 hX)
theorem six_new (w : World) (v0 v1 v2 v3 v4 v5 : Value) (T : TypeId) : ∀ j u, [v0, v1, v2, v3, v4, v5][j]? = some u → (w.alloc (.cells #[v0, v1, v2, v3, v4, v5] T)).cell? ((⟨w.heap.size, 0, none⟩ : Addr).add j) = some u := by
  intro j u h
  obtain ⟨c0, c1, c2, c3, c4, c5, _⟩ := cells6 (heap_last w (.cells #[v0, v1, v2, v3, v4, v5] T))
  rw [addr_add, Nat.zero_add]
  match j, h with
  | 0, h => cases h; exact c0
  | 1, h => cases h; exact c1
  | 2, h => cases h; exact c2
  | 3, h => cases h; exact c3
  | 4, h => cases h; exact c4
  | 5, h => cases h; exact c5
set_option maxHeartbeats 4000000 in
set_option maxRecDepth 100000 in
theorem all_calls (S : Nat → Prop) (fs : List (VT → Rz)) (a : Option Addr) (c : Nat) (row : VT) (r0 r1 r2 r3 r4 r5 : Value) (w : World) (hN : NodeRow S w fs a) (hlen : fs.length ≤ 1000) (hL : Laid w) (hr : RV w 0 w.heap.size row [r0, r1, r2, r3, r4, r5]) :
    Calls Tryz.prog 209 #[.slice a fs.length c, .agg #[r0, r1, r2, r3, r4, r5]] w (AllPost w (allR (fs.map fun f => f row))) := by
  have HR := Lib.hid hr
  have HN := Lib.hid hN
  have HL := Lib.hid hL
  obtain ⟨kr, br, nr, sr, lr, fr, ar1, cr1, ar2, cr2, er', er, _⟩ := RV.mk_parts hr
  simp only [List.cons.injEq, and_true] at er
  obtain ⟨rfl, rfl, rfl, rfl, rfl, rfl⟩ := er
  clear hr hN hL er'
  have hb0 := below_new (w := w) (.cells #[.int .u8 kr, .bool br, .int .i64 nr, .string sr, .slice ar1 lr.len cr1, .slice ar2 fr.len cr2] 27)
  have hx0 := heap_last w (.cells #[.int .u8 kr, .bool br, .int .i64 nr, .string sr, .slice ar1 lr.len cr1, .slice ar2 fr.len cr2] 27)
  have HAT0 : Hid (AllAt w (w.alloc (.cells #[.int .u8 kr, .bool br, .int .i64 nr, .string sr, .slice ar1 lr.len cr1, .slice ar2 fr.len cr2] 27)) [] (.slice none 0 0) [.int .u8 kr, .bool br, .int .i64 nr, .string sr, .slice ar1 lr.len cr1, .slice ar2 fr.len cr2]) := Lib.hid ⟨[], World.ownsRow_nil _ _ _ _, rfl, hb0, hx0⟩
  clear hb0 hx0
  go_enter Tryz.func209, Tryz.ntmps209
  go_wp2_with fail
  go_loopw [6, 13] (fun s6 s13 wr => ∃ (i : Nat) (vs : List VT) (v : Value), s6 = v ∧ s13 = .int .i64 i ∧ i ≤ fs.length ∧ Hid (allR ((fs.take i).map fun f => f row) = .ok vs) ∧ vs.length = i ∧ AllAt w wr vs v [.int .u8 kr, .bool br, .int .i64 nr, .string sr, .slice ar1 lr.len cr1, .slice ar2 fr.len cr2]) (fun _ s13 _ => fs.length - (intOf s13).toNat)
  case atStart => exact ⟨0, [], _, rfl, rfl, Nat.zero_le _, Lib.hid rfl, rfl, HAT0.out⟩
  case round =>
    obtain ⟨i, vs, v, e6, rfl, hil, HA, hvi, hat⟩ := hrel
    have e6 := e6.symm
    subst e6
    have HAT := Lib.hid hat
    obtain ⟨lw, lo⟩ := hat.old
    obtain ⟨cs, hO, hV, hB, hX⟩ := hat
    have HO := Lib.hid hO
    have HV := Lib.hid hV
    have HB := Lib.hid hB
    have HX := Lib.hid hX
    have HLO := Lib.hid lo
    obtain ⟨p0, p1, p2, p3, p4, p5, p6⟩ := cells6 hX
    have HVI := Lib.hid hvi
    clear HAT0 hvi hO hV hB hX lo
    by_cases hlt : i < fs.length
    · rcases (HN.out.later (Later.of_below HB.out)) with h0 | ⟨b, o, rfl, hbs, hS, hc⟩
      · omega
      obtain ⟨nv, hnv, hnode⟩ := hc i hlt
      obtain ⟨T, x, fn, rfl, ⟨m2, m3⟩, hcall⟩ := hnode
      have HC := Lib.hid (hcall wr row _ _ _ _ _ _ ⟨Nat.le_refl _, fun _ _ _ => rfl⟩ (HL.out.below HB.out) (HR.out.grow HB.out))
      have hstep := allR_snoc (fs[i] row) ((fs.take i).map fun f => f row)
      have htk : (fs.take (i + 1)).map (fun f => f row) = (fs.take i).map (fun f => f row) ++ [fs[i] row] := by rw [List.take_succ_eq_append_getElem hlt, List.map_append]; rfl
      have hstop := fun e h => allR_stop ((fs.drop (i + 1)).map fun f => f row) e ((fs.take (i + 1)).map fun f => f row) h
      rw [← List.map_append, List.take_append_drop] at hstop
      rw [← htk, HA.out] at hstep
      obtain ⟨⟨⟨k, bb, n, s, l, f⟩, wy⟩, hrz⟩ : ∃ r : Rz, fs[i] row = r := ⟨_, rfl⟩
      rw [hrz] at HC hstep
      clear hc hcall htk hrz
      by_cases hw : wy = 0
      · subst hw
        have HST : Hid (allR ((fs.take (i + 1)).map fun f => f row) = .ok (vs ++ [.mk k bb n s l f])) := Lib.hid (by rw [hstep]; rfl)
        clear hstep hstop
        go_upto_region 6 with ((with_reducible refine (HC.out).mono ?_); intro e w7 hev; obtain ⟨hb7, a1, c1, a2, c2, rfl, hv7⟩ := hev.parts; have HB7 := Lib.hid hb7; have HV7 := Lib.hid hv7; clear hev hb7 hv7)
        have hx8 := heap_last w7 (.cells #[.int .u8 k, .bool bb, .int .i64 n, .string s, .slice a1 l.len c1, .slice a2 f.len c2] 27)
        have hb8 := below_new (w := w7) (.cells #[.int .u8 k, .bool bb, .int .i64 n, .string s, .slice a1 l.len c1, .slice a2 f.len c2] 27)
        have hown8 := owns_below (owns_below HO.out HB7.out) hb8
        have s7 := HB7.out.size
        generalize hw8 : w7.alloc (.cells #[.int .u8 k, .bool bb, .int .i64 n, .string s, .slice a1 l.len c1, .slice a2 f.len c2] 27) = w8 at *
        have hs8 : w8.heap.size = w7.heap.size + 1 := by rw [← hw8]; simp
        have HB8 := Lib.hid hb8
        have HS8 := Lib.hid hs8
        have HOW8 := Lib.hid hown8
        obtain ⟨q0, q1, q2, q3, q4, q5, q6⟩ := cells6 hx8
        obtain ⟨i0, hi0, hz00, hz1, hz2⟩ := info_parts Tryz.infoV
        clear hw8 hb8 hs8 hx8 hown8 p0 p1 p2 p3 p4 p5 p6
        have E1 : Hid (vs.length + 1 ≤ maxLen) := Lib.hid (by have := HVI.out; unfold maxLen; omega)
        have E2 : Hid ((vs.length + 1) * 80 ≤ 140737488355328) := Lib.hid (by have := HVI.out; omega)
        have E3 : Hid (w.heap.size + 1 ≤ (w8.alloc (.cells #[.int .u8 k, .bool bb, .int .i64 n, .string s, .slice a1 l.len c1, .slice a2 f.len c2] 27)).heap.size) := Lib.hid (by have := HS8.out; simp; omega)
        have E5 : Hid (∀ u ∈ ([.int .u8 k, .bool bb, .int .i64 n, .string s, .slice a1 l.len c1, .slice a2 f.len c2] : List Value), u.oneCell' = true) := Lib.hid (by intro u hu; simp only [List.mem_cons, List.not_mem_nil, or_false] at hu; rcases hu with rfl | rfl | rfl | rfl | rfl | rfl <;> rfl)
        go_wp2_with (at_builtin; refine wpList_append_lies _ rfl _ _ 24 rfl (w.heap.size + 1) 27 i0 (.agg #[.int .u8 0, .bool false, .int .i64 0, .string ⟨#[]⟩, .slice none 0 0, .slice none 0 0]) 6 80 Tryz.underlying24 hi0 hz00 hz1 hz2 rfl (by decide) v vs.length cs (by rfl) (HOW8.out.alloc _) ⟨w8.heap.size, 0, none⟩ 1 1 [.int .u8 k, .bool bb, .int .i64 n, .string s, .slice a1 l.len c1, .slice a2 f.len c2] (by rfl) rfl (six_new w8 _ _ _ _ _ _ _) E5.out (by decide) E1.out E2.out E3.out (w8.heap.size + 1) (by simp) ?_; intro g' cap w2 hown hgrow hat2 hlt2; have HNX := Lib.hid (all_step HO.out HV.out HB.out HX.out HB7.out HV7.out (below_call0 HB8.out HB8.out.size (below_new _)) hgrow hown (hat2.imp id (fun h => by have := HS8.out; omega))); clear hown hgrow hat2 hlt2)
        go_roundw
        case rel => exact ⟨i + 1, vs ++ [.mk k bb n s l f], _, rfl, by go_num, by omega, HST, by have := HVI.out; simp; omega, HNX.out⟩
        case measure => simp [intOf]; omega
      · have HST : Hid (allR (fs.map fun f => f row) = .error wy) := Lib.hid (hstop wy (by rw [hstep]; exact if_pos hw))
        have hw2 : (wy != 0) = true := by simpa using hw
        clear hstep hstop
        go_upto_region 6 with ((with_reducible refine (HC.out).mono ?_); intro e w7 hev; obtain ⟨hb7, a1, c1, a2, c2, rfl, hv7⟩ := hev.parts; have HB7 := Lib.hid hb7; have HV7 := Lib.hid hv7; clear hev hb7 hv7)
        have HB8 := Lib.hid (below_call0 HB7.out HB7.out.size (below_new (w := w7) (.cells #[.int .u8 k, .bool bb, .int .i64 n, .string s, .slice a1 l.len c1, .slice a2 f.len c2] 27)))
        generalize w7.alloc (.cells #[.int .u8 k, .bool bb, .int .i64 n, .string s, .slice a1 l.len c1, .slice a2 f.len c2] 27) = w8 at *
        clear p0 p1 p2 p3 p4 p5 p6
        go_wp2_with fail
        go_ret2
        rw [HST.out]
        exact ⟨below_call0 HB.out HB.out.size HB8.out, rfl⟩
    · have hfull : fs.take i = fs := List.take_of_length_le (by omega)
      have hA := HA.out
      rw [hfull] at hA
      have HAA := Lib.hid hA
      obtain ⟨A, c6, rfl, hl6, hm6⟩ := owns_val HO.out
      clear hfull hA p0 p1 p2 p3 p4 p5 p6
      go_wp2_with fail
      go_ret2
      rw [HAA.out]
      refine ⟨HB.out, A, c6, rfl, hl6, ?_⟩
      rcases HO.out.2 with ⟨_, h0⟩ | ⟨g, cap, cur, e, hBg, hg, h1, h2, hcs, htk⟩
      · exact Or.inl h0
      · cases e
        refine Or.inr ⟨g, rfl, by omega, lt_of_block hg, ?_⟩
        have hr := Vals.rows (g := g) vs cs 0 HV.out (fun j hj => by
          rw [Nat.zero_add]
          exact HO.out.cellAt j (by rw [← Vals.length _ _ HV.out]; exact hj))
        exact RQL.to_rv (fun b hb => ⟨by omega, hb.2.1⟩) _ _ _ hr
end Go.Proofs.YtbemgcjckchdjaaGreatDoor
/- The node logic. -/
namespace Go.Proofs.YtbemgcjckchdjaaGreatDoor
open Go.RowKit
set_option linter.unusedSimpArgs false
set_option linter.unusedVariables false
set_option maxHeartbeats 4000000 in
set_option maxRecDepth 100000 in
theorem logic_calls (S : Nat → Prop) (o : Bool) (Ta : TypeId) (xa : Value) (Tb : TypeId) (xb : Value) (F G : VT → Rz) (row : VT) (r0 r1 r2 r3 r4 r5 : Value) (w : World) (hF : Node S w (.iface Ta xa) F) (hG : Node S w (.iface Tb xb) G) (hL : Laid w) (hr : RV w 0 w.heap.size row [r0, r1, r2, r3, r4, r5]) :
    Calls Tryz.prog 217 #[.agg #[.bool o, .iface Ta xa, .iface Tb xb], .agg #[r0, r1, r2, r3, r4, r5]] w (EvPost w (logicR o (F row) (G row))) := by
  have HA := Lib.hid (fun (w' : World) (hb : Below w.heap.size w w') => flag_calls S _ F row r0 r1 r2 r3 r4 r5 w' (hF.later (Later.of_below hb)) (hL.below hb) (hr.grow hb))
  have HB := Lib.hid (fun (w' : World) (hb : Below w.heap.size w w') => flag_calls S _ G row r0 r1 r2 r3 r4 r5 w' (hG.later (Later.of_below hb)) (hL.below hb) (hr.grow hb))
  obtain ⟨kr, br, nr, sr, lr, fr, ar1, cr1, ar2, cr2, rfl, er, _⟩ := RV.mk_parts hr
  simp only [List.cons.injEq, and_true] at er
  obtain ⟨rfl, rfl, rfl, rfl, rfl, rfl⟩ := er
  unfold logicR
  generalize flagR (F (.mk kr br nr sr lr fr)) = ra at *
  generalize flagR (G (.mk kr br nr sr lr fr)) = rb at *
  obtain ⟨⟨k, b, n, s, l, f⟩, wy⟩ := ra
  obtain ⟨⟨k', b', n', s', l', f'⟩, wy'⟩ := rb
  clear hF hG hL hr
  show Calls _ _ _ _ (EvPost w (if (wy ≠ 0 || b == o) = true then (.mk k b n s l f, wy) else if (wy' = 0 && o && !b' && k = 0) = true then (.mk k b n s l f, 0) else (.mk k' b' n' s' l' f', wy')))
  generalize hR : (if (wy ≠ 0 || b == o) = true then ((.mk k b n s l f, wy) : Rz) else if (wy' = 0 && o && !b' && k = 0) = true then (.mk k b n s l f, 0) else (.mk k' b' n' s' l' f', wy')) = R
  have HRR := Lib.hid hR
  clear hR
  have hD := three_allocs (w := w) (.cells #[.bool o, .iface Ta xa, .iface Tb xb] 137) (.cells #[.int .u8 kr, .bool br, .int .i64 nr, .string sr, .slice ar1 lr.len cr1, .slice ar2 fr.len cr2] 27) zeroO
  have hX := blk_alloc (o := zeroO) (blk_alloc (o := .cells #[.int .u8 kr, .bool br, .int .i64 nr, .string sr, .slice ar1 lr.len cr1, .slice ar2 fr.len cr2] 27) (heap_last w (.cells #[.bool o, .iface Ta xa, .iface Tb xb] 137)))
  have hY := blk_alloc (o := zeroO) (heap_last (w.alloc (.cells #[.bool o, .iface Ta xa, .iface Tb xb] 137)) (.cells #[.int .u8 kr, .bool br, .int .i64 nr, .string sr, .slice ar1 lr.len cr1, .slice ar2 fr.len cr2] 27))
  have hZ := heap_last ((w.alloc (.cells #[.bool o, .iface Ta xa, .iface Tb xb] 137)).alloc (.cells #[.int .u8 kr, .bool br, .int .i64 nr, .string sr, .slice ar1 lr.len cr1, .slice ar2 fr.len cr2] 27)) zeroO
  have ez1 : (w.alloc (.cells #[.bool o, .iface Ta xa, .iface Tb xb] 137)).heap.size = w.heap.size + 1 := by simp
  have ez2 : ((w.alloc (.cells #[.bool o, .iface Ta xa, .iface Tb xb] 137)).alloc (.cells #[.int .u8 kr, .bool br, .int .i64 nr, .string sr, .slice ar1 lr.len cr1, .slice ar2 fr.len cr2] 27)).heap.size = w.heap.size + 1 + 1 := by simp
  have ez3 : (((w.alloc (.cells #[.bool o, .iface Ta xa, .iface Tb xb] 137)).alloc (.cells #[.int .u8 kr, .bool br, .int .i64 nr, .string sr, .slice ar1 lr.len cr1, .slice ar2 fr.len cr2] 27)).alloc zeroO).heap.size = w.heap.size + 1 + 1 + 1 := by simp
  rw [ez1] at hY
  rw [ez2] at hZ
  go_enter Tryz.func217, Tryz.ntmps217
  go_upto_region 1 with (fail)
  generalize ((w.alloc (.cells #[.bool o, .iface Ta xa, .iface Tb xb] 137)).alloc (.cells #[.int .u8 kr, .bool br, .int .i64 nr, .string sr, .slice ar1 lr.len cr1, .slice ar2 fr.len cr2] 27)).alloc zeroO = W at *
  have HD := Lib.hid hD
  have HX := Lib.hid hX
  have HY := Lib.hid hY
  have HZ := Lib.hid hZ
  have HW := Lib.hid ez3
  obtain ⟨x0, x1, x2, x3⟩ := cells3 hX
  obtain ⟨y0, y1, y2, y3, y4, y5, y6⟩ := cells6 hY
  clear hD hX hY hZ ez1 ez2 ez3
  go_upto_region 2 with (go_at_call 218; refine (HA.out _ HD.out).mono ?_; intro e w7 hev; obtain ⟨hb7, a1, c1, a2, c2, rfl, hv7⟩ := hev.parts; have HX7 := Lib.hid (blk hb7 HX.out); have HY7 := Lib.hid (blk hb7 HY.out); have HZ7 := Lib.hid (blk hb7 HZ.out); have HB7 := Lib.hid (below_call0 HD.out HD.out.size hb7); have HV7 := Lib.hid hv7; have HS7 := Lib.hid hb7.size; clear hev hb7 hv7)
  clear x0 x1 x2 x3 y0 y1 y2 y3 y4 y5 y6
  have hb8 := below_new (w := w7) (.cells #[.int .u8 k, .bool b, .int .i64 n, .string s, .slice a1 l.len c1, .slice a2 f.len c2] 27)
  have hp8 := heap_last w7 (.cells #[.int .u8 k, .bool b, .int .i64 n, .string s, .slice a1 l.len c1, .slice a2 f.len c2] 27)
  generalize w7.alloc (.cells #[.int .u8 k, .bool b, .int .i64 n, .string s, .slice a1 l.len c1, .slice a2 f.len c2] 27) = w8 at *
  have HX8 := Lib.hid (blk hb8 HX7.out)
  have HY8 := Lib.hid (blk hb8 HY7.out)
  have HZ8 := Lib.hid (blk hb8 HZ7.out)
  have HB8 := Lib.hid (below_call0 HB7.out HB7.out.size hb8)
  have HP8 := Lib.hid hp8
  have HK8 := Lib.hid hb8
  have hs7 : w.heap.size + 1 + 1 + 1 ≤ w7.heap.size := by rw [← HW.out]; exact HS7.out
  have l8 : w7.heap.size < w8.heap.size := lt_of_block hp8
  clear hb8 hp8 HX7 HY7 HZ7 HB7 HX HY HZ HA
  obtain ⟨x0, x1, x2, x3⟩ := cells3 HX8.out
  obtain ⟨y0, y1, y2, y3, y4, y5, y6⟩ := cells6 HY8.out
  obtain ⟨z0, z1, z2, z3, z4, z5, z6⟩ := cells6 HZ8.out
  obtain ⟨p0, p1, p2, p3, p4, p5, p6⟩ := cells6 HP8.out
  by_cases hw : wy = 0
  · subst hw
    cases hbo : (b == o) with
    | true =>
      obtain rfl : R = (.mk k b n s l f, 0) := by rw [← HRR.out]; simp [hbo]
      go_wp2_with fail
      refine bodyPost_ret (v := .tuple #[.agg #[.int .u8 k, .bool b, .int .i64 n, .string s, .slice a1 l.len c1, .slice a2 f.len c2], .int .i64 0]) (by simp [results, Tryz.results217, go_sem, cell_set_same, z0, z1, z2, z3, z4, z5]) rfl ?_
      exact ⟨setCells_below (by omega) [_, _, _, _, _, _] 0 _ HB8.out, _, _, _, _, _, _, rfl, RV.above (us := [_, _, _, _, _, _]) HV7.out (by rw [HW.out]; omega) (by rw [HW.out]; omega) HK8.out⟩
    | false =>
      go_upto_region 5 with (go_at_call 218; refine (HB.out _ HB8.out).mono ?_; intro e w9 hev; obtain ⟨hb9, d1, e1, d2, e2, rfl, hv9⟩ := hev.parts; have HX9 := Lib.hid (blk hb9 HX8.out); have HZ9 := Lib.hid (blk hb9 HZ8.out); have HP9 := Lib.hid (blk hb9 HP8.out); have HB9 := Lib.hid (below_call0 HB8.out HB8.out.size hb9); have HK9 := Lib.hid (below_call0 HK8.out HK8.out.size hb9); have HV9 := Lib.hid hv9; have HS9 := Lib.hid hb9.size; clear hev hb9 hv9)
      clear x0 x1 x2 x3 y0 y1 y2 y3 y4 y5 y6 z0 z1 z2 z3 z4 z5 z6 p0 p1 p2 p3 p4 p5 p6
      have hb10 := below_new (w := w9) (.cells #[.int .u8 k', .bool b', .int .i64 n', .string s', .slice d1 l'.len e1, .slice d2 f'.len e2] 27)
      have hq10 := heap_last w9 (.cells #[.int .u8 k', .bool b', .int .i64 n', .string s', .slice d1 l'.len e1, .slice d2 f'.len e2] 27)
      have hs9 := HS9.out
      generalize w9.alloc (.cells #[.int .u8 k', .bool b', .int .i64 n', .string s', .slice d1 l'.len e1, .slice d2 f'.len e2] 27) = w10 at *
      have hx10 := blk hb10 HX9.out
      have hz10 := blk hb10 HZ9.out
      have hp10 := blk hb10 HP9.out
      have HBX := Lib.hid (below_call0 HB9.out HB9.out.size hb10)
      have HKX := Lib.hid (below_call0 HK9.out HK9.out.size hb10)
      have HK10 := Lib.hid hb10
      have l10 : w9.heap.size < w10.heap.size := lt_of_block hq10
      obtain ⟨x0, x1, x2, x3⟩ := cells3 hx10
      obtain ⟨z0, z1, z2, z3, z4, z5, z6⟩ := cells6 hz10
      obtain ⟨p0, p1, p2, p3, p4, p5, p6⟩ := cells6 hp10
      obtain ⟨q0, q1, q2, q3, q4, q5, q6⟩ := cells6 hq10
      clear hb10 hq10 hx10 hz10 hp10 HX9 HZ9 HP9 HB9 HK9 HX8 HY8 HZ8 HB8 HP8 HK8 HB
      by_cases hw' : wy' = 0
      · subst hw'
        cases o with
        | false =>
          obtain rfl : R = (.mk k' b' n' s' l' f', 0) := by rw [← HRR.out]; simp [hbo]
          go_wp2_with fail
          refine bodyPost_ret (v := .tuple #[.agg #[.int .u8 k', .bool b', .int .i64 n', .string s', .slice d1 l'.len e1, .slice d2 f'.len e2], .int .i64 0]) (by simp [results, Tryz.results217, go_sem, cell_set_same, z0, z1, z2, z3, z4, z5]) rfl ?_
          exact ⟨setCells_below (by omega) [_, _, _, _, _, _] 0 _ HBX.out, _, _, _, _, _, _, rfl, RV.above (us := [_, _, _, _, _, _]) HV9.out (by omega) (by omega) HK10.out⟩
        | true =>
          cases b' with
          | true =>
            obtain rfl : R = (.mk k' true n' s' l' f', 0) := by rw [← HRR.out]; simp [hbo]
            go_wp2_with fail
            refine bodyPost_ret (v := .tuple #[.agg #[.int .u8 k', .bool true, .int .i64 n', .string s', .slice d1 l'.len e1, .slice d2 f'.len e2], .int .i64 0]) (by simp [results, Tryz.results217, go_sem, cell_set_same, z0, z1, z2, z3, z4, z5]) rfl ?_
            exact ⟨setCells_below (by omega) [_, _, _, _, _, _] 0 _ HBX.out, _, _, _, _, _, _, rfl, RV.above (us := [_, _, _, _, _, _]) HV9.out (by omega) (by omega) HK10.out⟩
          | false =>
            by_cases hk : k = 0
            · subst hk
              obtain rfl : R = (.mk 0 b n s l f, 0) := by rw [← HRR.out]; simp [hbo]
              go_wp2_with fail
              refine bodyPost_ret (v := .tuple #[.agg #[.int .u8 0, .bool b, .int .i64 n, .string s, .slice a1 l.len c1, .slice a2 f.len c2], .int .i64 0]) (by simp [results, Tryz.results217, go_sem, cell_set_same, z0, z1, z2, z3, z4, z5]) rfl ?_
              exact ⟨setCells_below (by omega) [_, _, _, _, _, _] 0 _ HBX.out, _, _, _, _, _, _, rfl, RV.above (us := [_, _, _, _, _, _]) HV7.out (by rw [HW.out]; omega) (by rw [HW.out]; omega) HKX.out⟩
            · obtain rfl : R = (.mk k' false n' s' l' f', 0) := by rw [← HRR.out]; simp [hbo, hk]
              have hk2 : (k == 0) = false := by simpa using hk
              go_wp2_with fail
              refine bodyPost_ret (v := .tuple #[.agg #[.int .u8 k', .bool false, .int .i64 n', .string s', .slice d1 l'.len e1, .slice d2 f'.len e2], .int .i64 0]) (by simp [results, Tryz.results217, go_sem, cell_set_same, z0, z1, z2, z3, z4, z5]) rfl ?_
              exact ⟨setCells_below (by omega) [_, _, _, _, _, _] 0 _ HBX.out, _, _, _, _, _, _, rfl, RV.above (us := [_, _, _, _, _, _]) HV9.out (by omega) (by omega) HK10.out⟩
      · obtain rfl : R = (.mk k' b' n' s' l' f', wy') := by rw [← HRR.out]; simp [hbo, hw']
        have hw2 : (wy' == 0) = false := by simpa using hw'
        go_wp2_with fail
        all_goals
          refine bodyPost_ret (v := .tuple #[.agg #[.int .u8 k', .bool b', .int .i64 n', .string s', .slice d1 l'.len e1, .slice d2 f'.len e2], .int .i64 wy']) (by simp [results, Tryz.results217, go_sem, cell_set_same, z0, z1, z2, z3, z4, z5]) rfl ?_
          exact ⟨setCells_below (by omega) [_, _, _, _, _, _] 0 _ HBX.out, _, _, _, _, _, _, rfl, RV.above (us := [_, _, _, _, _, _]) HV9.out (by omega) (by omega) HK10.out⟩
  · obtain rfl : R = (.mk k b n s l f, wy) := by rw [← HRR.out]; simp [hw]
    have hw2 : (wy != 0) = true := by simpa using hw
    have HBX := HB8
    have HKX := HK8
    go_wp2_with fail
    all_goals
      refine bodyPost_ret (v := .tuple #[.agg #[.int .u8 k, .bool b, .int .i64 n, .string s, .slice a1 l.len c1, .slice a2 f.len c2], .int .i64 wy]) (by simp [results, Tryz.results217, go_sem, cell_set_same, z0, z1, z2, z3, z4, z5]) rfl ?_
      exact ⟨setCells_below (by omega) [_, _, _, _, _, _] 0 _ HBX.out, _, _, _, _, _, _, rfl, RV.above (us := [_, _, _, _, _, _]) HV7.out (by rw [HW.out]; omega) (by rw [HW.out]; omega) HKX.out⟩
end Go.Proofs.YtbemgcjckchdjaaGreatDoor
