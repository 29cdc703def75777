import Derived.Test.YtbemgcjckchdjaaGreatDoorLMc
import Derived.Test.YtbemgcjckchdjaaGreatDoorLEe
import Derived.Test.YtbemgcjckchdjaaGreatDoorLMd
import Derived.Test.YtbemgcjckchdjaaGreatDoorLCa
/- expr.all Cp constants of any values (what expr.Apply makes); AllPostQ's laws. -/
namespace Go.Proofs.YtbemgcjckchdjaaGreatDoor
open Go.RowKit
set_option linter.unusedSimpArgs false
set_option linter.unusedVariables false
set_option maxHeartbeats 1000000 in
set_option maxRecDepth 100000 in
theorem Ik (k : Int) (b : Bool) (n : Int) (s : ByteArray) (A1 : Option Addr) (l1 c1 : Nat) (A2 : Option Addr) (l2 c2 : Nat) (row : VT) (r0 r1 r2 r3 r4 r5 : Value) (w : World) (hr : RV w 0 w.heap.size row [r0, r1, r2, r3, r4, r5]) :
  Calls Tryz.prog 207 #[.agg #[.int .u8 k, .bool b, .int .i64 n, .string s, .slice A1 l1 c1, .slice A2 l2 c2], .agg #[r0, r1, r2, r3, r4, r5]] w fun e w' => e = .returned (.tuple #[.agg #[.int .u8 k, .bool b, .int .i64 n, .string s, .slice A1 l1 c1, .slice A2 l2 c2], .int .i64 0]) ∧ Below w.heap.size w w' := by
 obtain ⟨kr, br, nr, sr, lr, fr, ar1, cr1, ar2, cr2, rfl, er, _⟩ := RV.mk_parts hr
 simp only [List.cons.injEq, and_true] at er
 obtain ⟨rfl, rfl, rfl, rfl, rfl, rfl⟩ := er
 clear hr
 go_enter Tryz.func207, Tryz.ntmps207
 go_wp2_with fail
 refine bodyPost_ret (v := .tuple #[.agg #[.int .u8 k, .bool b, .int .i64 n, .string s, .slice A1 l1 c1, .slice A2 l2 c2], .int .i64 0]) (by simp [results, Tryz.results207, go_sem]) rfl ?_
 exact ⟨rfl, Ax _ _ _⟩
def ConstRow (lo lo1 : Nat) (w : World) (vs : List VT) (a : Option Addr) : Prop :=
 vs.length = 0 ∨ ∃ b o, a = some ⟨b, o, none⟩ ∧ b < w.heap.size ∧ ∀ i (h : i < vs.length), ∃ v0 v1 v2 v3 v4 v5, w.cell? ⟨b, o + i, none⟩ = some (.iface 121 (.agg #[v0, v1, v2, v3, v4, v5])) ∧ RV w lo lo1 vs[i] [v0, v1, v2, v3, v4, v5]
theorem ConstRow.keep {lo lo1 : Nat} {w w' : World} {vs : List VT} {a : Option Addr} (h : ConstRow lo lo1 w vs a) (hl : lo1 ≤ w.heap.size) (hb : Below w.heap.size w w') : ConstRow lo lo1 w' vs a := by
 rcases h with h | ⟨b, o, e, hlt, hc⟩
 · exact Or.inl h
 · refine Or.inr ⟨b, o, e, Nat.lt_of_lt_of_le hlt hb.size, fun i hi => ?_⟩
   obtain ⟨v0, v1, v2, v3, v4, v5, h1, h2⟩ := hc i hi
   exact ⟨v0, v1, v2, v3, v4, v5, Ac hb h1, RV.keep (fun b o h => Same.of_below hb b o (Nat.lt_of_lt_of_le h hl)) (Nat.le_refl _) (Nat.le_refl _) _ _ h2⟩
def AllAtC (lo lo1 : Nat) (w wr : World) (vs : List VT) (v : Value) (row : List Value) : Prop :=
 ∃ cs, wr.ownsRow (w.heap.size + 1) 27 6 v vs.length cs ∧ Vals wr (fun b => lo ≤ b ∧ b < lo1) vs cs ∧ Below w.heap.size w wr ∧ wr.heap[w.heap.size]? = some (.cells row.toArray 27 (0, 0))
theorem AllAtC.old {lo lo1 : Nat} {w wr : World} {vs : List VT} {v : Value} {row : List Value} (h : AllAtC lo lo1 w wr vs v row) : w.heap.size < wr.heap.size ∧ (∀ g, v.ownBlock = some g → w.heap.size < g ∧ g < wr.heap.size) := by
 obtain ⟨cs, hO, hV, hB, hX⟩ := h
 exact ⟨lt_of_block hX, fun g hg => by have := hO.lt g hg; omega⟩
theorem N6 {lo lo1 : Nat} {w wr w7 wz w2 : World} {vs : List VT} {v : Value} {cs row : List Value} {t : VT} {u0 u1 u2 u3 u4 u5 : Value} {g cap : Nat} (hlo : lo1 ≤ w.heap.size) (hO : wr.ownsRow (w.heap.size + 1) 27 6 v vs.length cs) (hV : Vals wr (fun b => lo ≤ b ∧ b < lo1) vs cs) (hB : Below w.heap.size w wr) (hX : wr.heap[w.heap.size]? = some (.cells row.toArray 27 (0, 0)))
   (hb7 : Below wr.heap.size wr w7) (hv : RV wr lo lo1 t [u0, u1, u2, u3, u4, u5]) (hz : Below w7.heap.size w7 wz) (hgrow : wz.grownBy w2 v.ownBlock) (hown : w2.ownsRow (w.heap.size + 1) 27 6 (.slice (some ⟨g, 0, none⟩) (vs.length + 1) cap) (vs.length + 1) (cs ++ [u0, u1, u2, u3, u4, u5])) :
   AllAtC lo lo1 w w2 (vs ++ [t]) (.slice (some ⟨g, 0, none⟩) (vs.length + 1) cap) row := by
 have lX : w.heap.size < wr.heap.size := lt_of_block hX
 have s7 := hb7.size
 have sz := hz.size
 have s2 := hgrow.size
 have hvo : ∀ k, v.ownBlock = some k → w.heap.size < k ∧ k < wr.heap.size := fun k hk => by have := hO.lt k hk; omega
 have blk2 : ∀ b, b < w7.heap.size → v.ownBlock ≠ some b → w2.heap[b]? = w7.heap[b]? := fun b hb hne => (hgrow.block b (by omega) (fun e => hne e.symm)).trans (hz.block b hb)
 have cel2 : ∀ b o, b < w7.heap.size → v.ownBlock ≠ some b → w2.cell? ⟨b, o, none⟩ = w7.cell? ⟨b, o, none⟩ := fun b o hb hne => World.cell?_of_block (a := ⟨b, o, none⟩) (blk2 b hb hne)
 have hs : G7 (fun b => lo ≤ b ∧ b < lo1) wr w2 := fun b o hq => (cel2 b o (by omega) (fun e => by have := hvo b e; omega)).trans (hb7.cell (p := ⟨b, o, none⟩) (by show b < _; omega))
 refine ⟨cs ++ [u0, u1, u2, u3, u4, u5], by rw [List.length_append]; exact hown, ?_, ?_, ?_⟩
 · exact Vals.snoc (RQ.keep hs (fun _ h => h) t _ (RQ.of_rv t _ hv)) _ _ (Vals.keep hs (fun _ h => h) _ _ hV)
 · exact (Aa hB (by omega) hb7).trans ((hz.mono (by omega)).grown hgrow (by omega) (fun k hk => by have := hvo k hk; omega))
 · exact (blk2 w.heap.size (by omega) (fun e => by have := hvo _ e; omega)).trans (blk hb7 hX)
set_option maxHeartbeats 4000000 in
set_option maxRecDepth 100000 in
theorem M0 (lo lo1 : Nat) (w0 : World) (hl0 : lo1 ≤ w0.heap.size) (us : List VT) (a : Option Addr) (c : Nat) (row : VT) (r0 r1 r2 r3 r4 r5 : Value) (w : World) (hN : ConstRow lo lo1 w0 us a) (h0 : Below w0.heap.size w0 w) (hlen : us.length ≤ 1000) (hr : RV w 0 w.heap.size row [r0, r1, r2, r3, r4, r5]) :
  Calls Tryz.prog 209 #[.slice a us.length c, .agg #[r0, r1, r2, r3, r4, r5]] w (AllPostQ lo lo1 w (.ok us)) := by
 have HW0 := Lib.hid h0
 have HL0 := Lib.hid hl0
 have HR := Lib.hid hr
 have HN := Lib.hid hN
 obtain ⟨kr, br, nr, sr, lr, fr, ar1, cr1, ar2, cr2, er', er, _⟩ := RV.mk_parts hr
 simp only [List.cons.injEq, and_true] at er
 obtain ⟨rfl, rfl, rfl, rfl, rfl, rfl⟩ := er
 clear hr hN h0 hl0 er'
 have hb0 := Ad (w := w) (.cells #[.int .u8 kr, .bool br, .int .i64 nr, .string sr, .slice ar1 lr.len cr1, .slice ar2 fr.len cr2] 27)
 have hx0 := Ab w (.cells #[.int .u8 kr, .bool br, .int .i64 nr, .string sr, .slice ar1 lr.len cr1, .slice ar2 fr.len cr2] 27)
 have HAT0 : Hid (AllAtC lo lo1 w (w.alloc (.cells #[.int .u8 kr, .bool br, .int .i64 nr, .string sr, .slice ar1 lr.len cr1, .slice ar2 fr.len cr2] 27)) [] (.slice none 0 0) [.int .u8 kr, .bool br, .int .i64 nr, .string sr, .slice ar1 lr.len cr1, .slice ar2 fr.len cr2]) := Lib.hid ⟨[], World.ownsRow_nil _ _ _ _, rfl, hb0, hx0⟩
 clear hb0 hx0
 go_enter Tryz.func209, Tryz.ntmps209
 go_wp2_with fail
 go_loopw [6, 13] (fun s6 s13 wr => ∃ (i : Nat) (vs : List VT) (v : Value), s6 = v ∧ s13 = .int .i64 i ∧ i ≤ us.length ∧ Hid (us.take i = vs) ∧ vs.length = i ∧ AllAtC lo lo1 w wr vs v [.int .u8 kr, .bool br, .int .i64 nr, .string sr, .slice ar1 lr.len cr1, .slice ar2 fr.len cr2]) (fun _ s13 _ => us.length - (intOf s13).toNat)
 case atStart => exact ⟨0, [], _, rfl, rfl, Nat.zero_le _, Lib.hid rfl, rfl, HAT0.out⟩
 case round =>
  obtain ⟨i, vs, v, e6, rfl, hil, HA, hvi, hat⟩ := hrel
  have e6 := e6.symm
  subst e6
  have HAT := Lib.hid hat
  obtain ⟨lw, lO⟩ := hat.old
  obtain ⟨cs, hO, hV, hB, hX⟩ := hat
  have HO := Lib.hid hO
  have HV := Lib.hid hV
  have HB := Lib.hid hB
  have HX := Lib.hid hX
  have HLO := Lib.hid lO
  obtain ⟨p0, p1, p2, p3, p4, p5, p6⟩ := Ae hX
  have HVI := Lib.hid hvi
  clear HAT0 hvi hO hV hB hX lO
  by_cases hlt : i < us.length
  · rcases HN.out with h0 | ⟨b, o, rfl, hbs, hc⟩
    · omega
    obtain ⟨n0, n1, n2, n3, n4, n5, hnv, hrv⟩ := hc i hlt
    have hnv := (HB.out.cell (p := ⟨b, o + i, none⟩) (Nat.lt_of_lt_of_le hbs HW0.out.size)).trans ((HW0.out.cell (p := ⟨b, o + i, none⟩) hbs).trans hnv)
    have hb0r : Below w0.heap.size w0 wr := HW0.out.trans (HB.out.mono HW0.out.size)
    have hrv2 := RV.keep (fun b o h => Same.of_below hb0r b o (Nat.lt_of_lt_of_le h HL0.out)) (Nat.le_refl _) (Nat.le_refl _) _ _ hrv
    obtain ⟨k, bb, n, s, l, f, a1, c1, a2, c2, hue, ee, _⟩ := RV.mk_parts hrv
    simp only [List.cons.injEq, and_true] at ee
    obtain ⟨rfl, rfl, rfl, rfl, rfl, rfl⟩ := ee
    obtain ⟨m2, m3⟩ := FU (.agg #[.int .u8 k, .bool bb, .int .i64 n, .string s, .slice a1 l.len c1, .slice a2 f.len c2])
    have HC := Lib.hid (Ik k bb n s a1 l.len c1 a2 f.len c2 row _ _ _ _ _ _ wr (HR.out.grow HB.out))
    have htk : us.take (i + 1) = us.take i ++ [us[i]] := List.take_succ_eq_append_getElem hlt
    have HTK : Hid (us.take (i + 1) = vs ++ [us[i]]) := Lib.hid (by rw [htk, HA.out])
    rw [hue] at HTK hrv2
    have HRV := Lib.hid hrv2
    clear hc hrv hrv2 hb0r htk hue
    go_upto_region 6 with ((with_reducible refine (HC.out).mono ?_); rintro e w7 ⟨rfl, hb7⟩; have HB7 := Lib.hid hb7; clear hb7)
    have hx8 := Ab w7 (.cells #[.int .u8 k, .bool bb, .int .i64 n, .string s, .slice a1 l.len c1, .slice a2 f.len c2] 27)
    have hb8 := Ad (w := w7) (.cells #[.int .u8 k, .bool bb, .int .i64 n, .string s, .slice a1 l.len c1, .slice a2 f.len c2] 27)
    have hown8 := AM (AM HO.out HB7.out) hb8
    have s7 := HB7.out.size
    generalize hw8 : w7.alloc (.cells #[.int .u8 k, .bool bb, .int .i64 n, .string s, .slice a1 l.len c1, .slice a2 f.len c2] 27) = w8 at *
    have hs8 : w8.heap.size = w7.heap.size + 1 := by rw [← hw8]; simp
    have HB8 := Lib.hid hb8
    have HS8 := Lib.hid hs8
    have HOW8 := Lib.hid hown8
    obtain ⟨q0, q1, q2, q3, q4, q5, q6⟩ := Ae hx8
    obtain ⟨i0, hi0, hz00, hz1, hz2⟩ := info_parts Tryz.infoV
    clear hw8 hb8 hs8 hx8 hown8 p0 p1 p2 p3 p4 p5 p6
    have E1 : Hid (vs.length + 1 ≤ maxLen) := Lib.hid (by have := HVI.out; unfold maxLen; omega)
    have E2 : Hid ((vs.length + 1) * 80 ≤ 140737488355328) := Lib.hid (by have := HVI.out; omega)
    have E3 : Hid (w.heap.size + 1 ≤ (w8.alloc (.cells #[.int .u8 k, .bool bb, .int .i64 n, .string s, .slice a1 l.len c1, .slice a2 f.len c2] 27)).heap.size) := Lib.hid (by have := HS8.out; simp; omega)
    have E5 : Hid (∀ u ∈ ([.int .u8 k, .bool bb, .int .i64 n, .string s, .slice a1 l.len c1, .slice a2 f.len c2] : List Value), u.oneCell' = true) := Lib.hid (by intro u hu; simp only [List.mem_cons, List.not_mem_nil, or_false] at hu; rcases hu with rfl | rfl | rfl | rfl | rfl | rfl <;> rfl)
    go_wp2_with (at_builtin; refine wpList_append_lies _ rfl _ _ 24 rfl (w.heap.size + 1) 27 i0 (.agg #[.int .u8 0, .bool false, .int .i64 0, .string ⟨#[]⟩, .slice none 0 0, .slice none 0 0]) 6 80 Tryz.underlying24 hi0 hz00 hz1 hz2 rfl (by decide) v vs.length cs (by rfl) (HOW8.out.alloc _) ⟨w8.heap.size, 0, none⟩ 1 1 [.int .u8 k, .bool bb, .int .i64 n, .string s, .slice a1 l.len c1, .slice a2 f.len c2] (by rfl) rfl (Jg w8 _ _ _ _ _ _ _) E5.out (by decide) E1.out E2.out E3.out (w8.heap.size + 1) (by simp) ?_; intro g' cap w2 hown hgrow hat2 hlt2; have HNX := Lib.hid (N6 (Nat.le_trans HL0.out HW0.out.size) HO.out HV.out HB.out HX.out HB7.out HRV.out (Aa HB8.out HB8.out.size (Ad _)) hgrow hown); clear hown hgrow hat2 hlt2)
    go_roundw
    case rel => exact ⟨i + 1, vs ++ [.mk k bb n s l f], _, rfl, by go_num, by omega, HTK, by have := HVI.out; simp; omega, HNX.out⟩
    case measure => simp [intOf]; omega
  · have hfull : us.take i = us := List.take_of_length_le (by omega)
    have hA := HA.out
    rw [hfull] at hA
    replace hA := hA.symm
    subst hA
    obtain ⟨A, c6, rfl, hl6, hm6⟩ := Bt HO.out
    clear hfull p0 p1 p2 p3 p4 p5 p6
    go_wp2_with fail
    go_ret2
    refine ⟨HB.out, A, c6, rfl, hl6, ?_⟩
    rcases HO.out.2 with ⟨_, h0⟩ | ⟨g, cap, cur, e, hBg, hg, h1, h2, hcs, htk⟩
    · exact Or.inl h0
    · cases e
      refine Or.inr ⟨g, rfl, by omega, lt_of_block hg, ?_⟩
      have hr := Vals.rows (g := g) vs cs 0 (Vals.keep (Q' := Two lo lo1 w.heap.size wr.heap.size) (fun _ _ _ => rfl) (fun b hb => Or.inl hb) _ _ HV.out) (fun j hj => by
       rw [Nat.zero_add]
       exact HO.out.cellAt j (by rw [← Vals.length _ _ HV.out]; exact hj))
      exact hr
/- expr.one Cp a row of constants: the node that it makes. -/
abbrev NoB : Nat → Prop := fun _ => False
def NodeQ (lo lo1 : Nat) (w : World) (v : Value) (F : VT → Rz) : Prop :=
 ∃ T x fn, v = .iface T x ∧ Hj T x fn ∧ ∀ (w' : World) (row : VT) (v0 v1 v2 v3 v4 v5 : Value), Below w.heap.size w w' → Laid w' → RV w' 0 w'.heap.size row [v0, v1, v2, v3, v4, v5] → Calls Tryz.prog fn #[x, .agg #[v0, v1, v2, v3, v4, v5]] w' (EvPostQ lo lo1 w' (F row))
theorem NodeQ.keep {lo lo1 : Nat} {w w1 : World} {v : Value} {F : VT → Rz} (h : NodeQ lo lo1 w v F) (hb : Below w.heap.size w w1) : NodeQ lo lo1 w1 v F := by
 obtain ⟨T, x, fn, e, hm, hc⟩ := h
 exact ⟨T, x, fn, e, hm, fun w' row v0 v1 v2 v3 v4 v5 hb' => hc w' row v0 v1 v2 v3 v4 v5 (Aa hb hb.size hb')⟩
theorem Node.two {lo lo1 : Nat} {w : World} {v : Value} {F : VT → Rz} (h : Node NoB w v F) : NodeQ lo lo1 w v F := by
 obtain ⟨T, x, fn, e, hm, hc⟩ := h
 exact ⟨T, x, fn, e, hm, fun w' row v0 v1 v2 v3 v4 v5 hb hL hr => (hc w' row v0 v1 v2 v3 v4 v5 (Later.of_below hb) hL hr).mono fun _ _ h => h.two⟩
def My (lo lo1 : Nat) (w : World) (F : VT → Rz) (e : Ending) (w' : World) : Prop := Below w.heap.size w w' ∧ ∃ v, e = .returned v ∧ NodeQ lo lo1 w' v F
def B1 (us : List VT) : List Rz := us.map fun v => (v, 0)
theorem CV (us : List VT) : (B1 us).length = us.length := List.length_map ..
theorem GL : ∀ us : List VT, AV (B1 us) = .ok us
 | [] => rfl
 | v :: r => by
   show (if (0 : Int) ≠ 0 then _ else _) = _
   rw [if_neg (by simp)]
   show (match AV (B1 r) with | .error e => _ | .ok vs => _) = _
   rw [GL r]
section
variable (lo lo1 : Nat) (w0 : World) (s : ST) (us : List VT) (A : Option Addr) (c : Nat) (w : World) (hl0 : lo1 ≤ w0.heap.size) (hN : ConstRow lo lo1 w0 us A) (h0 : Below w0.heap.size w0 w)
include hl0 hN h0
theorem Ks (hlen : us.length ≤ 1000) {w1 : World} (h1 : Below w.heap.size w w1) {row : VT} {r0 r1 r2 r3 r4 r5 : Value} (hr : RV w1 0 w1.heap.size row [r0, r1, r2, r3, r4, r5]) :
  Calls Tryz.prog 209 #[.slice A us.length c, .agg #[r0, r1, r2, r3, r4, r5]] w1 (AllPostQ lo lo1 w1 (AV (B1 us))) := by
 rw [GL]
 exact M0 lo lo1 w0 hl0 us A c row r0 r1 r2 r3 r4 r5 w1 hN (Aa h0 h0.size h1) hlen hr
set_option maxHeartbeats 1000000
set_option maxRecDepth 100000
theorem Oe (hk : s.k = 7) (hlen : us.length ≤ 1000) :
  Calls Tryz.prog 43 #[.agg #[.int .u8 s.k, .string s.t, .int .i64 s.n], .slice A us.length c] w (My lo lo1 w (fun row => AX s row (B1 us))) := by
 have hD := Ad (w := w) (.cells #[.int .u8 s.k, .string s.t, .int .i64 s.n] 43)
 have HD := Lib.hid hD
 have HN := Lib.hid hN
 have H0 := Lib.hid h0
 have HL0 := Lib.hid hl0
 have HLEN := Lib.hid hlen
 have e : (fun row => AX s row (B1 us)) = fun row => Cb none (B1 us) := by
  funext row
  unfold AX
  rw [if_pos hk]
 rw [e]
 obtain ⟨k, t, n⟩ := s
 simp only at hk ⊢
 subst hk
 clear hN h0 hl0 e hD hlen
 go_enter Tryz.func43, Tryz.ntmps43
 go_wp2_with fail
 go_ret
 refine ⟨HD.out, _, rfl, _, _, _, rfl, DY _, fun w' row v0 v1 v2 v3 v4 v5 hb hL' hr => ?_⟩
 have h1 := Aa HD.out HD.out.size hb
 have h01 := Aa H0.out H0.out.size h1
 exact FS lo lo1 (B1 us) A us.length c row v0 v1 v2 v3 v4 v5 w' (Nat.le_trans HL0.out h01.size) (by rw [CV]; exact HLEN.out) hL' hr (fun w2 hb2 => Ks lo lo1 w0 us A c w' HL0.out HN.out h01 HLEN.out hb2 (hr.grow hb2))
theorem LI (hk : s.k = 8) (hlen : us.length ≤ 1000) (ht : s.t.size ≤ LIM) (hnm : us.length = 0 ∨ ((Aw s.t Cf).length = us.length ∧ Cs (Aw s.t Cf) = true)) (hL : Laid w) :
  Calls Tryz.prog 43 #[.agg #[.int .u8 s.k, .string s.t, .int .i64 s.n], .slice A us.length c] w (My lo lo1 w (fun row => AX s row (B1 us))) := by
 have hD := Ad (w := w) (.cells #[.int .u8 s.k, .string s.t, .int .i64 s.n] 43)
 have HSP := Lib.hid (DI s.t Cf _ ht (by decide) (hL.below hD))
 have hsz : ∀ p ∈ Aw s.t Cf, p.size ≤ LIM := fun p hp => by
  have := C9 Cf _ s.t p hp
  unfold LIM at *
  omega
 have HD := Lib.hid hD
 have HN := Lib.hid hN
 have H0 := Lib.hid h0
 have HL0 := Lib.hid hl0
 have HLEN := Lib.hid hlen
 have HSZ := Lib.hid hsz
 have HNM := Lib.hid hnm
 have e : (fun row => AX s row (B1 us)) = fun row => Cb (some (Aw s.t Cf)) (B1 us) := by
  funext row
  unfold AX
  rw [if_neg (by omega), if_pos hk]
 rw [e]
 obtain ⟨k, t, n⟩ := s
 simp only at hk HSP HSZ HNM HD ⊢
 subst hk
 unfold Cf at HSP
 clear hN h0 hl0 e hD hlen hsz hnm ht hL
 go_enter Tryz.func43, Tryz.ntmps43
 go_wp2_with (go_at_call 57; refine (HSP.out).mono ?_; rintro e w4 ⟨g, rfl, hc4, hg4, hl4, hb4⟩; have HC4 := Lib.hid hc4; have HB4 := Lib.hid (Aa HD.out HD.out.size hb4); have HL4 := Lib.hid hl4; clear hc4 hb4 hg4 hl4)
 go_ret
 refine ⟨HB4.out, _, rfl, _, _, _, rfl, DY _, fun w' row v0 v1 v2 v3 v4 v5 hb hL' hr => ?_⟩
 have h1 := Aa HB4.out HB4.out.size hb
 have h01 := Aa H0.out H0.out.size h1
 exact (FT (B1 us) A us.length c (Aw t Cf) g _ row v0 v1 v2 v3 v4 v5 w' (by rw [CV]; exact HLEN.out) hL' hr (fun w2 hb2 => (Ks lo lo1 w0 us A c w' HL0.out HN.out h01 HLEN.out hb2 (hr.grow hb2)).mono fun _ _ h => h.weak (Nat.le_trans HL0.out (Nat.le_trans h01.size hb2.size))) (fun i hi => Ac hb (HC4.out i hi)) (Nat.lt_of_lt_of_le HL4.out hb.size) HSZ.out (by rw [CV]; exact HNM.out)).mono fun _ _ h => h.two
theorem JA (hk : (9 ≤ s.k ∧ s.k ≤ 11 ∧ us.length = 1) ∨ (12 ≤ s.k ∧ s.k ≤ 20 ∧ us.length = 2)) :
  Calls Tryz.prog 43 #[.agg #[.int .u8 s.k, .string s.t, .int .i64 s.n], .slice A us.length c] w (My lo lo1 w (fun row => AX s row (B1 us))) := by
 have hD := Ad (w := w) (.cells #[.int .u8 s.k, .string s.t, .int .i64 s.n] 43)
 have HD := Lib.hid hD
 have HN := Lib.hid hN
 have H0 := Lib.hid h0
 have HL0 := Lib.hid hl0
 have e : (fun row => AX s row (B1 us)) = fun row => Dm s.k (B1 us) := by
  funext row
  unfold AX
  have hne : (B1 us).isEmpty = false := by
   cases us with
   | nil => simp at hk
   | cons a b => rfl
  rw [if_neg (by omega), if_neg (by omega), if_neg (by omega), if_neg (by rw [hne]; simp)]
 rw [e]
 have HK := Lib.hid hk
 obtain ⟨k, t, n⟩ := s
 simp only at hk HK ⊢
 have q7 : (k == 7) = false := by simp; omega
 have q8 : (k == 8) = false := by simp; omega
 have q21 : (k == 21) = false := by simp; omega
 have q22 : (k == 22) = false := by simp; omega
 have q0 : ((us.length : Int) == 0) = false := by simp; intro h; simp [h] at hk
 have l0 : us.length ≤ 2 := by omega
 clear hN h0 hl0 hk e hD
 go_enter Tryz.func43, Tryz.ntmps43
 go_wp2_with fail
 go_ret
 refine ⟨HD.out, _, rfl, _, _, _, rfl, FV _, fun w' row v0 v1 v2 v3 v4 v5 hb hL' hr => ?_⟩
 have h1 := Aa HD.out HD.out.size hb
 have h01 := Aa H0.out H0.out.size h1
 exact (EL k (B1 us) A us.length c row v0 v1 v2 v3 v4 v5 w' (by rw [CV]; exact HK.out) hL' hr (fun w2 hb2 => (Ks lo lo1 w0 us A c w' HL0.out HN.out h01 (by have := HK.out; omega) hb2 (hr.grow hb2)).mono fun _ _ h => h.weak (Nat.le_trans HL0.out (Nat.le_trans h01.size hb2.size)))).mono fun _ _ h => h.two
theorem MW (hs : Be s) (hok : s.ok = true) (hq : s.takes = (us.length : Int)) (h21 : s.k < 21) (hL : Laid w) :
   Calls Tryz.prog 43 #[.agg #[.int .u8 s.k, .string s.t, .int .i64 s.n], .slice A us.length c] w (My lo lo1 w (fun row => AX s row (B1 us))) := by
 by_cases hu0 : us.length = 0
 · have hu := List.length_eq_zero_iff.1 hu0
   subst hu
   exact (F3 NoB s [] A c 0 w hs hok hq rfl (Nat.zero_le _) (Or.inl rfl) hL (fun _ h => h.elim)).mono fun _ _ h => by
     obtain ⟨hb, v, e, _, hn⟩ := h
     exact ⟨hb, v, e, hn.two⟩
 have hk0 : s.k ≠ 0 := fun h => by
   unfold ST.ok AC at hok
   simp [h] at hok
 have hkn := hs.2.2
 by_cases h7 : s.k = 7
 · have hq7 : us.length ≤ 64 := by
     unfold ST.takes AJ at hq
     unfold ST.ok AC at hok
     simp only [Bool.and_eq_true, h7] at hok hq
     simp at hok hq
     omega
   exact Oe lo lo1 w0 s us A c w hl0 hN h0 h7 (by omega)
 by_cases h8 : s.k = 8
 · unfold ST.takes AJ at hq
   unfold ST.ok AC at hok
   simp only [Bool.and_eq_true, h8] at hok hq
   simp at hok hq
   refine LI lo lo1 w0 s us A c w hl0 hN h0 h8 (by omega) hs.2.1 ?_ hL
   have hnb := hok.1.2
   unfold DE at hnb
   by_cases hn0 : s.n = 0
   · exact Or.inl (by omega)
   · rw [if_neg hn0] at hnb
     simp only [Bool.and_eq_true, beq_iff_eq] at hnb
     exact Or.inr ⟨by show (Aw s.t Cv).length = _; omega, hnb.2.1⟩
 unfold ST.takes AJ at hq
 by_cases h6 : s.k ≤ 6
 · rw [if_pos ⟨by omega, h6⟩] at hq
   exact absurd hq (by omega)
 · rw [if_neg (by omega), if_neg (by omega)] at hq
   by_cases h11 : s.k ≤ 11
   · rw [if_pos (by omega)] at hq
     exact JA lo lo1 w0 s us A c w hl0 hN h0 (Or.inl ⟨by omega, h11, by omega⟩)
   · rw [if_neg (by omega)] at hq
     exact JA lo lo1 w0 s us A c w hl0 hN h0 (Or.inr ⟨by omega, by omega, by omega⟩)
end
/- expr.Apply. -/
def RowU (lo : Nat) (w : World) (us : List VT) (A : Option Addr) : Prop := us.length = 0 ∨ ∃ b o, A = some ⟨b, o, none⟩ ∧ b < w.heap.size ∧ RL w lo w.heap.size (Au us) b o
def RowX (lo lo1 : Nat) (w : World) (us : List VT) (A : Option Addr) : Prop := us.length = 0 ∨ ∃ b o, A = some ⟨b, o, none⟩ ∧ b < w.heap.size ∧ RL w lo lo1 (Au us) b o
theorem RowU.x {lo : Nat} {w : World} {us : List VT} {A : Option Addr} (h : RowU lo w us A) : RowX lo w.heap.size w us A := h
theorem RowU.keep {lo : Nat} {w w' : World} {us : List VT} {A : Option Addr} (h : RowU lo w us A) (hb : Below w.heap.size w w') : RowU lo w' us A := by
 rcases h with h | ⟨b, o, e, hlt, hr⟩
 · exact Or.inl h
 · exact Or.inr ⟨b, o, e, Nat.lt_of_lt_of_le hlt hb.size, RL.keep (Same.of_below hb) (Nat.le_refl _) hb.size _ b o hlt hr⟩
def IK (lo lo1 : Nat) (w wr : World) (vs : List VT) (sv : Value) (o0 o1 : Obj) : Prop :=
 ∃ cs, wr.ownsRow (w.heap.size + 3) 61 1 sv vs.length cs ∧ (∀ i (h : i < vs.length), ∃ v0 v1 v2 v3 v4 v5, cs[i]? = some (.iface 121 (.agg #[v0, v1, v2, v3, v4, v5])) ∧ RV w lo lo1 vs[i] [v0, v1, v2, v3, v4, v5]) ∧ Below w.heap.size w wr ∧
  wr.heap[w.heap.size]? = some o0 ∧ wr.heap[w.heap.size + 1]? = some o1 ∧ wr.heap[w.heap.size + 1 + 1]? = some Ah
theorem MZ {lo lo1 : Nat} {w wr w8 w2 : World} {vs : List VT} {sv : Value} {cs : List Value} {t : VT} {u0 u1 u2 u3 u4 u5 : Value} {g cap : Nat} {o0 o1 : Obj} (hO : wr.ownsRow (w.heap.size + 3) 61 1 sv vs.length cs) (hV : ∀ i (h : i < vs.length), ∃ v0 v1 v2 v3 v4 v5, cs[i]? = some (.iface 121 (.agg #[v0, v1, v2, v3, v4, v5])) ∧ RV w lo lo1 vs[i] [v0, v1, v2, v3, v4, v5]) (hB : Below w.heap.size w wr)
   (h0 : wr.heap[w.heap.size]? = some o0) (h1 : wr.heap[w.heap.size + 1]? = some o1) (h2 : wr.heap[w.heap.size + 1 + 1]? = some Ah) (hv : RV w lo lo1 t [u0, u1, u2, u3, u4, u5]) (h8 : Below wr.heap.size wr w8) (hgrow : w8.grownBy w2 sv.ownBlock) (hown : w2.ownsRow (w.heap.size + 3) 61 1 (.slice (some ⟨g, 0, none⟩) (vs.length + 1) cap) (vs.length + 1) (cs ++ [.iface 121 (.agg #[u0, u1, u2, u3, u4, u5])])) :
   IK lo lo1 w w2 (vs ++ [t]) (.slice (some ⟨g, 0, none⟩) (vs.length + 1) cap) o0 o1 := by
 have hc : cs.length = vs.length := by have := hO.1; omega
 have s8 := h8.size
 have l2 := lt_of_block h2
 have hvo : ∀ k, sv.ownBlock = some k → w.heap.size + 3 ≤ k := fun k hk => (hO.lt k hk).1
 have blk2 : ∀ b (o : Obj), b < w.heap.size + 3 → wr.heap[b]? = some o → w2.heap[b]? = some o := fun b o hb h => (hgrow.block b (by have := lt_of_block h; omega) (fun e => by have := hvo b e.symm; omega)).trans ((h8.block b (lt_of_block h)).trans h)
 refine ⟨cs ++ [.iface 121 (.agg #[u0, u1, u2, u3, u4, u5])], by rw [List.length_append]; exact hown, fun i hi => ?_, ?_, blk2 _ _ (by omega) h0, blk2 _ _ (by omega) h1, blk2 _ _ (by omega) h2⟩
 · by_cases hlt : i < vs.length
   · obtain ⟨v0, v1, v2, v3, v4, v5, e, hr⟩ := hV i hlt
     refine ⟨v0, v1, v2, v3, v4, v5, ?_, ?_⟩
     · rw [List.getElem?_append_left (by omega)]; exact e
     · rw [List.getElem_append_left hlt]; exact hr
   · have hi' : i = vs.length := by simp at hi; omega
     subst hi'
     refine ⟨u0, u1, u2, u3, u4, u5, ?_, ?_⟩
     · rw [List.getElem?_append_right (by omega), hc, Nat.sub_self]; rfl
     · rw [List.getElem_append_right (by omega)]
       simpa using hv
 · have h1 := Aa hB hB.size h8
   exact h1.grown hgrow h1.size (fun k hk => by have := hvo k hk; omega)
theorem Q1 {lo lo1 n m h9 hf b : Nat} (h : Two lo lo1 m h9 b) (hl : lo1 ≤ n) (hm : n + 3 ≤ m) (h1 : m ≤ h9) : b < h9 ∧ b ≠ n + 1 + 1 ∧ (hf = h9 → Two lo lo1 n hf b) := by
 rcases h with h | h
 · exact ⟨by omega, by omega, fun _ => Or.inl h⟩
 · exact ⟨by omega, by omega, fun e => Or.inr ⟨by omega, by omega⟩⟩
theorem EvPostQ.parts {lo lo1 : Nat} {w w' : World} {k : Int} {b : Bool} {n : Int} {s : ByteArray} {l : VL} {f : FL} {wy : Int} {x : Ending} (h : EvPostQ lo lo1 w (.mk k b n s l f, wy) x w') : Below w.heap.size w w' ∧ ∃ a1 c1 a2 c2, x = .returned (.tuple #[.agg #[.int .u8 k, .bool b, .int .i64 n, .string s, .slice a1 l.len c1, .slice a2 f.len c2], .int .i64 wy]) ∧
  RQ w' (Two lo lo1 w.heap.size w'.heap.size) (.mk k b n s l f) [.int .u8 k, .bool b, .int .i64 n, .string s, .slice a1 l.len c1, .slice a2 f.len c2] := by
 obtain ⟨hb, v0, v1, v2, v3, v4, v5, e, hv⟩ := h
 have hv0 := hv
 unfold RQ at hv
 obtain ⟨a1, c1, a2, c2, e2, _⟩ := hv
 simp only [List.cons.injEq, and_true] at e2
 obtain ⟨rfl, rfl, rfl, rfl, rfl, rfl⟩ := e2
 exact ⟨hb, a1, c1, a2, c2, e, hv0⟩
set_option maxHeartbeats 4000000 in
set_option maxRecDepth 100000 in
theorem FZ (lo lo1 : Nat) (s : ST) (us : List VT) (A : Option Addr) (c : Nat) (row : VT) (r0 r1 r2 r3 r4 r5 : Value) (w : World) (hs : Be s) (hok : s.ok = true) (hq : s.takes = (us.length : Int)) (h21 : s.k < 21) (hL : Laid w) (hr : RV w 0 w.heap.size row [r0, r1, r2, r3, r4, r5]) (hlo1 : lo1 ≤ w.heap.size) (hv : RowX lo lo1 w us A) :
  Calls Tryz.prog 41 #[.agg #[.int .u8 s.k, .string s.t, .int .i64 s.n], .agg #[r0, r1, r2, r3, r4, r5], .slice A us.length c] w (EvPostQ lo lo1 w (BZ s row us)) := by
 have hu64 : us.length ≤ 64 := by have := Bn s hok; omega
 have hr0 := hr
 obtain ⟨kr, br, nr, sr, lr, fr, ar1, cr1, ar2, cr2, hre, er, hjx⟩ := RV.mk_parts hr
 simp only [List.cons.injEq, and_true] at er
 obtain ⟨rfl, rfl, rfl, rfl, rfl, rfl⟩ := er
 clear hjx hr hre
 obtain ⟨W, hW, h0, h1, h2, hB, hS⟩ := If w (.cells #[.int .u8 s.k, .string s.t, .int .i64 s.n] 43) (.cells #[.int .u8 kr, .bool br, .int .i64 nr, .string sr, .slice ar1 lr.len cr1, .slice ar2 fr.len cr2] 27) Ah
 have HAT0 : Hid (IK lo lo1 w W [] (.slice none 0 0) (.cells #[.int .u8 s.k, .string s.t, .int .i64 s.n] 43) (.cells #[.int .u8 kr, .bool br, .int .i64 nr, .string sr, .slice ar1 lr.len cr1, .slice ar2 fr.len cr2] 27)) := Lib.hid ⟨[], World.ownsRow_nil _ _ _ _, fun i h => absurd h (Nat.not_lt_zero _), hB, h0, h1, h2⟩
 have HW := Lib.hid hW
 have HR := Lib.hid hr0
 have HV := Lib.hid hv
 have HLO := Lib.hid hlo1
 have HL := Lib.hid hL
 have HSO := Lib.hid hs
 have HOK := Lib.hid hok
 have HQ := Lib.hid hq
 have H21 := Lib.hid h21
 clear hr0 hv hlo1 hL hs hok hq h21 hW h0 h1 h2 hB hS
 go_enter Tryz.func41, Tryz.ntmps41
 go_upto_region 1 with (fail)
 have hw := HW.out
 rw [hw]
 clear hw HW
 go_wp2_with fail
 go_loopw [8, 13] (fun s8 s13 wr => ∃ (i : Nat) (sv : Value), s8 = sv ∧ s13 = .int .i64 i ∧ i ≤ us.length ∧ IK lo lo1 w wr (us.take i) sv (.cells #[.int .u8 s.k, .string s.t, .int .i64 s.n] 43) (.cells #[.int .u8 kr, .bool br, .int .i64 nr, .string sr, .slice ar1 lr.len cr1, .slice ar2 fr.len cr2] 27)) (fun _ s13 _ => us.length - (intOf s13).toNat)
 case atStart => exact ⟨0, _, rfl, rfl, Nat.zero_le _, HAT0.out⟩
 case round =>
  obtain ⟨i, sv, e8, rfl, hil, hat⟩ := hrel
  have e8 := e8.symm
  subst e8
  obtain ⟨cs, hO, hC, hB, h0, h1, h2⟩ := hat
  have htl : (us.take i).length = i := by rw [List.length_take]; omega
  have HTL := Lib.hid htl
  have HO := Lib.hid hO
  have HC := Lib.hid hC
  have HB := Lib.hid hB
  have H0 := Lib.hid h0
  have H1 := Lib.hid h1
  have H2 := Lib.hid h2
  clear HAT0 htl hO hC hB h0 h1 h2
  by_cases hlt : i < us.length
  · rcases HV.out with hn0 | ⟨b, o, rfl, hbs, hrl⟩
    · omega
    obtain ⟨v0, v1, v2, v3, v4, v5, e0, e1, e2, e3, e4, e5, hvx⟩ := RL.el (Au us) b o i (us[i]'hlt) hrl (D4 us i hlt)
    have e0 := (HB.out.cell (p := ⟨b, o + i * 6, none⟩) hbs).trans e0
    have e1 := (HB.out.cell (p := ⟨b, o + i * 6 + 1, none⟩) hbs).trans e1
    have e2 := (HB.out.cell (p := ⟨b, o + i * 6 + 2, none⟩) hbs).trans e2
    have e3 := (HB.out.cell (p := ⟨b, o + i * 6 + 3, none⟩) hbs).trans e3
    have e4 := (HB.out.cell (p := ⟨b, o + i * 6 + 4, none⟩) hbs).trans e4
    have e5 := (HB.out.cell (p := ⟨b, o + i * 6 + 5, none⟩) hbs).trans e5
    have HVX := Lib.hid hvx
    obtain ⟨kx, bx, nx, sx, lx, fx, ax1, cx1, ax2, cx2, hxe, ex, hjx⟩ := RV.mk_parts hvx
    simp only [List.cons.injEq, and_true] at ex
    obtain ⟨rfl, rfl, rfl, rfl, rfl, rfl⟩ := ex
    have HTK : Hid (us.take (i + 1) = us.take i ++ [us[i]]) := Lib.hid (List.take_succ_eq_append_getElem hlt)
    clear hvx hjx hxe hrl
    go_upto_region 5 with (fail)
    have hb8 := Ad (w := wr) (.cells #[.int .u8 kx, .bool bx, .int .i64 nx, .string sx, .slice ax1 lx.len cx1, .slice ax2 fx.len cx2] 27)
    have hx8 := Ab wr (.cells #[.int .u8 kx, .bool bx, .int .i64 nx, .string sx, .slice ax1 lx.len cx1, .slice ax2 fx.len cx2] 27)
    have hown8 := AM HO.out hb8
    generalize hw8 : wr.alloc (.cells #[.int .u8 kx, .bool bx, .int .i64 nx, .string sx, .slice ax1 lx.len cx1, .slice ax2 fx.len cx2] 27) = w8 at *
    have hs8 : w8.heap.size = wr.heap.size + 1 := by rw [← hw8]; simp
    have HB8 := Lib.hid hb8
    have HS8 := Lib.hid hs8
    have HOW8 := Lib.hid hown8
    obtain ⟨q0, q1, q2, q3, q4, q5, q6⟩ := Ae hx8
    obtain ⟨i0, hi0, hz00, hz1, hz2⟩ := info_parts Tryz.infoN
    clear hw8 hb8 hs8 hx8 hown8 e0 e1 e2 e3 e4 e5
    have E1 : Hid ((us.take i).length + 1 ≤ maxLen) := Lib.hid (by have := HTL.out; unfold maxLen; omega)
    have E2 : Hid (((us.take i).length + 1) * 16 ≤ 140737488355328) := Lib.hid (by have := HTL.out; omega)
    have E3 : Hid (w.heap.size + 3 ≤ (w8.alloc (.cells #[.iface 121 (.agg #[.int .u8 kx, .bool bx, .int .i64 nx, .string sx, .slice ax1 lx.len cx1, .slice ax2 fx.len cx2])] 61)).heap.size) := Lib.hid (by have := HS8.out; have := lt_of_block H2.out; simp; omega)
    have E5 : Hid (∀ u ∈ ([.iface 121 (.agg #[.int .u8 kx, .bool bx, .int .i64 nx, .string sx, .slice ax1 lx.len cx1, .slice ax2 fx.len cx2])] : List Value), u.oneCell' = true) := Lib.hid (by intro u hu; simp only [List.mem_singleton] at hu; subst hu; rfl)
    go_wp2_with (at_builtin; refine wpList_append_lies _ rfl _ _ 98 rfl (w.heap.size + 3) 61 i0 .nilIface 1 16 Tryz.underlying98 hi0 hz00 hz1 hz2 rfl (by decide) sv (us.take i).length cs (by rfl) (HOW8.out.alloc _) ⟨w8.heap.size, 0, none⟩ 1 1 [.iface 121 (.agg #[.int .u8 kx, .bool bx, .int .i64 nx, .string sx, .slice ax1 lx.len cx1, .slice ax2 fx.len cx2])] (by rfl) rfl Ep E5.out (by decide) E1.out E2.out E3.out (w8.heap.size + 1) (by simp) ?_; intro g' cap w2 hown hgrow hat2 hlt2; have HNX := Lib.hid (MZ HO.out HC.out HB.out H0.out H1.out H2.out HVX.out (Aa HB8.out HB8.out.size (Ad _)) hgrow hown); clear hown hgrow hat2 hlt2)
    go_roundw
    case rel => exact ⟨i + 1, _, rfl, by go_num, by omega, by have h := HNX.out; rw [HTL.out] at h; rw [HTK.out]; exact h⟩
    case measure => simp [intOf]; omega
  · have hfull : us.take i = us := List.take_of_length_le (by omega)
    rw [hfull] at HO HC
    obtain ⟨A9, c9, rfl, hl9, _⟩ := Bt HO.out
    have hcr : ConstRow lo lo1 wr us A9 := by
      rcases HO.out.2 with ⟨_, h0⟩ | ⟨g, cap, cur, e, hBg, hg, h1, h2, hcs, htk⟩
      · exact Or.inl h0
      · cases e
        refine Or.inr ⟨g, 0, rfl, lt_of_block hg, fun j hj => ?_⟩
        obtain ⟨v0, v1, v2, v3, v4, v5, e, hv⟩ := HC.out j hj
        refine ⟨v0, v1, v2, v3, v4, v5, ?_, RV.keep (fun b o h => Same.of_below HB.out b o (Nat.lt_of_lt_of_le h HLO.out)) (Nat.le_refl _) (Nat.le_refl _) _ _ hv⟩
        rw [Nat.zero_add]
        exact (HO.out.cellAt j (by have := HO.out.1; omega)).trans e
    have HONE := Lib.hid (fun (w' : World) (hb : Below wr.heap.size wr w') => MW lo lo1 wr s us A9 c9 w' (Nat.le_trans HLO.out HB.out.size) hcr hb HSO.out HOK.out HQ.out H21.out (HL.out.below (Aa HB.out HB.out.size hb)))
    obtain ⟨⟨⟨k, b, n, st, l, f⟩, wy⟩, hrz⟩ : ∃ r : Rz, AX s row (B1 us) = r := ⟨_, rfl⟩
    have HRZ := Lib.hid hrz
    have HBD := Lib.hid (Below.refl wr.heap.size wr).drew
    have l2 : w.heap.size + 1 + 1 < wr.heap.size := lt_of_block H2.out
    clear hfull hl9 hcr hrz HO HC HV HSO HOK HQ H21
    go_upto_region 7 with (fail)
    obtain ⟨p0, p1, p2, p3⟩ := Ak (show wr.drew.heap[_]? = _ from H0.out)
    obtain ⟨q0, q1, q2, q3, q4, q5, q6⟩ := Ae (show wr.drew.heap[_]? = _ from H1.out)
    go_region_with (first | (go_at_call 43; refine (HONE.out _ HBD.out).mono ?_; rintro e w9 ⟨hb9, v9, rfl, ⟨T9, x9, fn9, rfl, ⟨m2, m3⟩, hc9⟩⟩; have HX9 := Lib.hid (blk hb9 (show wr.drew.heap[_]? = _ from H1.out)); have HZ9 := Lib.hid (blk hb9 (show wr.drew.heap[_]? = _ from H2.out)); have HB9 := Lib.hid (Aa HB.out HB.out.size (Aa HBD.out HBD.out.size hb9)); have HS9 := Lib.hid hb9.size; have HC9 := Lib.hid (hc9 w9 row _ _ _ _ _ _ (Below.refl _ _) (HL.out.below HB9.out) (HR.out.grow HB9.out)); clear hb9 hc9; obtain ⟨g0, g1, g2, g3, g4, g5, g6⟩ := Ae HX9.out) | ((with_reducible refine (HC9.out).mono ?_); intro e w10 hev; rw [HRZ.out] at hev; obtain ⟨hb10, d1, e1, d2, e2, rfl, hv10⟩ := hev.parts; have HV10 := Lib.hid hv10; have HB10 := Lib.hid (Aa HB9.out HB9.out.size hb10); have HS10 := Lib.hid hb10.size; obtain ⟨z0, z1, z2, z3, z4, z5, z6⟩ := Ae (blk hb10 HZ9.out); clear hev hb10 hv10))
    all_goals
      go_wp2_with fail
      refine bodyPost_ret (v := .tuple #[.agg #[.int .u8 k, .bool b, .int .i64 n, .string st, .slice d1 l.len e1, .slice d2 f.len e2], .int .i64 wy]) (by simp [results, Tryz.results41, go_sem, Ai, z0, z1, z2, z3, z4, z5]) rfl ?_
      show EvPostQ lo lo1 w (AX s row (B1 us)) _ _
      rw [HRZ.out]
      have hs9 : wr.heap.size ≤ w9.heap.size := HS9.out
      exact ⟨Ag (by omega) [_, _, _, _, _, _] 0 _ HB10.out, _, _, _, _, _, _, rfl, RQ.box (us := [_, _, _, _, _, _]) (o := 0) HV10.out (Below.refl _ _) (fun b hq => Q1 hq HLO.out (by omega) HS10.out)⟩
end Go.Proofs.YtbemgcjckchdjaaGreatDoor
