import Derived.Test.YtbemgcjckchdjaaGreatDoorLLi
import Derived.Laws.StructEq
import Derived.Lib.SplitLaws
/- lex.Show of a word; parse.name. -/
namespace Go.Proofs.YtbemgcjckchdjaaGreatDoor
open Go.RowKit
set_option linter.unusedSimpArgs false
set_option linter.unusedVariables false
def GI (s : ByteArray) (t : TK) : Bool := (t.k == 1 && (t.t.toList == s.toList && (t.n == 0 && t.a == 0)))
def BT (s : ByteArray) : Bool := match DL s with | .ok [t] => GI s t | _ => false
set_option maxHeartbeats 1000000 in
set_option maxRecDepth 100000 in
theorem Qi (s : ByteArray) (w : World) (hs : s.size ≤ LIM) (hL : Laid w) (t : TK) (hr : DL s = .ok [t]) : Calls Tryz.prog 77 #[.agg #[.int .u8 1, .string s, .int .i64 0, .int .i64 0]] w fun e w' => e = .returned (.tuple #[.string (if GI s t then s else ⟨#[]⟩), .int .i64 (if GI s t then 0 else 13)]) ∧ Below w.heap.size w w' := by
 have hT := Ab w (.cells #[.int .u8 1, .string s, .int .i64 0, .int .i64 0] 158)
 have hD := Ad (w := w) (.cells #[.int .u8 1, .string s, .int .i64 0, .int .i64 0] 158)
 have HLX := Lib.hid (G5 s _ hs (hL.below hD))
 rw [hr] at HLX
 have HT := Lib.hid hT
 have HD := Lib.hid hD
 clear hT hD hL hr
 obtain ⟨k, tt, n, a⟩ := t
 unfold GI
 cases h1 : (k == 1) with
 | false =>
   simp only [Bool.false_and, Bool.false_eq_true, if_false]
   go_enter Tryz.func77, Tryz.ntmps77
   go_wp2_with (go_at_call 63; refine (HLX.out).mono ?_; rintro e w7 ⟨hb, v, rfl, hown⟩)
   obtain ⟨⟨g, cap⟩, rfl⟩ : ∃ gc : Nat × Nat, v = .slice (some ⟨gc.1, 0, none⟩) 1 gc.2 := by
    rcases C7 hown with ⟨_, h⟩ | ⟨g, cap, h, _⟩
    · simp at h
    · exact ⟨(g, cap), h⟩
   have c0 : w7.cell? ⟨g, 0, none⟩ = some (.int .u8 k) := hown.cellAt 0 (by simp)
   have c1 : w7.cell? ⟨g, 1, none⟩ = some (.string tt) := hown.cellAt 1 (by simp)
   have c2 : w7.cell? ⟨g, 2, none⟩ = some (.int .i64 n) := hown.cellAt 2 (by simp)
   have c3 : w7.cell? ⟨g, 3, none⟩ = some (.int .i64 a) := hown.cellAt 3 (by simp)
   obtain ⟨t0, t1, t2, t3, t4⟩ := AH (blk hb HT.out)
   have HB := Lib.hid hb
   clear hown hb
   go_quiet (fail)
   go_wp2_with fail
   go_ret2
   exact ⟨rfl, Aa (Aa HD.out HD.out.size HB.out) (Aa HD.out HD.out.size HB.out).size (Al _ _)⟩
 | true =>
 cases h2 : (tt.toList == s.toList) with
 | false =>
   simp only [Bool.false_and, Bool.and_false, Bool.false_eq_true, if_false]
   go_enter Tryz.func77, Tryz.ntmps77
   go_wp2_with (go_at_call 63; refine (HLX.out).mono ?_; rintro e w7 ⟨hb, v, rfl, hown⟩)
   obtain ⟨⟨g, cap⟩, rfl⟩ : ∃ gc : Nat × Nat, v = .slice (some ⟨gc.1, 0, none⟩) 1 gc.2 := by
    rcases C7 hown with ⟨_, h⟩ | ⟨g, cap, h, _⟩
    · simp at h
    · exact ⟨(g, cap), h⟩
   have c0 : w7.cell? ⟨g, 0, none⟩ = some (.int .u8 k) := hown.cellAt 0 (by simp)
   have c1 : w7.cell? ⟨g, 1, none⟩ = some (.string tt) := hown.cellAt 1 (by simp)
   have c2 : w7.cell? ⟨g, 2, none⟩ = some (.int .i64 n) := hown.cellAt 2 (by simp)
   have c3 : w7.cell? ⟨g, 3, none⟩ = some (.int .i64 a) := hown.cellAt 3 (by simp)
   obtain ⟨t0, t1, t2, t3, t4⟩ := AH (blk hb HT.out)
   have HB := Lib.hid hb
   clear hown hb
   go_quiet (fail)
   go_wp2_with fail
   go_ret2
   exact ⟨rfl, Aa (Aa HD.out HD.out.size HB.out) (Aa HD.out HD.out.size HB.out).size (Al _ _)⟩
 | true =>
 cases h3 : (n == 0) with
 | false =>
   simp only [Bool.false_and, Bool.and_false, Bool.false_eq_true, if_false]
   go_enter Tryz.func77, Tryz.ntmps77
   go_wp2_with (go_at_call 63; refine (HLX.out).mono ?_; rintro e w7 ⟨hb, v, rfl, hown⟩)
   obtain ⟨⟨g, cap⟩, rfl⟩ : ∃ gc : Nat × Nat, v = .slice (some ⟨gc.1, 0, none⟩) 1 gc.2 := by
    rcases C7 hown with ⟨_, h⟩ | ⟨g, cap, h, _⟩
    · simp at h
    · exact ⟨(g, cap), h⟩
   have c0 : w7.cell? ⟨g, 0, none⟩ = some (.int .u8 k) := hown.cellAt 0 (by simp)
   have c1 : w7.cell? ⟨g, 1, none⟩ = some (.string tt) := hown.cellAt 1 (by simp)
   have c2 : w7.cell? ⟨g, 2, none⟩ = some (.int .i64 n) := hown.cellAt 2 (by simp)
   have c3 : w7.cell? ⟨g, 3, none⟩ = some (.int .i64 a) := hown.cellAt 3 (by simp)
   obtain ⟨t0, t1, t2, t3, t4⟩ := AH (blk hb HT.out)
   have HB := Lib.hid hb
   clear hown hb
   go_quiet (fail)
   go_wp2_with fail
   go_ret2
   exact ⟨rfl, Aa (Aa HD.out HD.out.size HB.out) (Aa HD.out HD.out.size HB.out).size (Al _ _)⟩
 | true =>
 cases h4 : (a == 0) with
 | false =>
   simp only [Bool.false_and, Bool.and_false, Bool.false_eq_true, if_false]
   go_enter Tryz.func77, Tryz.ntmps77
   go_wp2_with (go_at_call 63; refine (HLX.out).mono ?_; rintro e w7 ⟨hb, v, rfl, hown⟩)
   obtain ⟨⟨g, cap⟩, rfl⟩ : ∃ gc : Nat × Nat, v = .slice (some ⟨gc.1, 0, none⟩) 1 gc.2 := by
    rcases C7 hown with ⟨_, h⟩ | ⟨g, cap, h, _⟩
    · simp at h
    · exact ⟨(g, cap), h⟩
   have c0 : w7.cell? ⟨g, 0, none⟩ = some (.int .u8 k) := hown.cellAt 0 (by simp)
   have c1 : w7.cell? ⟨g, 1, none⟩ = some (.string tt) := hown.cellAt 1 (by simp)
   have c2 : w7.cell? ⟨g, 2, none⟩ = some (.int .i64 n) := hown.cellAt 2 (by simp)
   have c3 : w7.cell? ⟨g, 3, none⟩ = some (.int .i64 a) := hown.cellAt 3 (by simp)
   obtain ⟨t0, t1, t2, t3, t4⟩ := AH (blk hb HT.out)
   have HB := Lib.hid hb
   clear hown hb
   go_quiet (fail)
   go_wp2_with fail
   go_ret2
   exact ⟨rfl, Aa (Aa HD.out HD.out.size HB.out) (Aa HD.out HD.out.size HB.out).size (Al _ _)⟩
 | true =>
   simp only [Bool.and_self, if_true]
   go_enter Tryz.func77, Tryz.ntmps77
   go_wp2_with (go_at_call 63; refine (HLX.out).mono ?_; rintro e w7 ⟨hb, v, rfl, hown⟩)
   obtain ⟨⟨g, cap⟩, rfl⟩ : ∃ gc : Nat × Nat, v = .slice (some ⟨gc.1, 0, none⟩) 1 gc.2 := by
    rcases C7 hown with ⟨_, h⟩ | ⟨g, cap, h, _⟩
    · simp at h
    · exact ⟨(g, cap), h⟩
   have c0 : w7.cell? ⟨g, 0, none⟩ = some (.int .u8 k) := hown.cellAt 0 (by simp)
   have c1 : w7.cell? ⟨g, 1, none⟩ = some (.string tt) := hown.cellAt 1 (by simp)
   have c2 : w7.cell? ⟨g, 2, none⟩ = some (.int .i64 n) := hown.cellAt 2 (by simp)
   have c3 : w7.cell? ⟨g, 3, none⟩ = some (.int .i64 a) := hown.cellAt 3 (by simp)
   obtain ⟨t0, t1, t2, t3, t4⟩ := AH (blk hb HT.out)
   have HB := Lib.hid hb
   clear hown hb
   go_quiet (fail)
   go_wp2_with fail
   go_ret2
   exact ⟨rfl, Aa (Aa HD.out HD.out.size HB.out) (Aa HD.out HD.out.size HB.out).size (Al _ _)⟩
set_option maxHeartbeats 1000000 in
set_option maxRecDepth 100000 in
theorem JI (s : ByteArray) (w : World) (hs : s.size ≤ LIM) (hL : Laid w) (l : List TK) (hr : DL s = .ok l) (hl : l.length ≠ 1) (hb1 : l.length ≤ 1048576) : Calls Tryz.prog 77 #[.agg #[.int .u8 1, .string s, .int .i64 0, .int .i64 0]] w fun e w' => e = .returned (.tuple #[.string ⟨#[]⟩, .int .i64 13]) ∧ Below w.heap.size w w' := by
 have hD := Ad (w := w) (.cells #[.int .u8 1, .string s, .int .i64 0, .int .i64 0] 158)
 have HLX := Lib.hid (G5 s _ hs (hL.below hD))
 rw [hr] at HLX
 have HD := Lib.hid hD
 have g1 : ((l.length : Int) != 1) = true := by rw [bne_iff_ne]; omega
 clear hD hL hr hl
 go_enter Tryz.func77, Tryz.ntmps77
 go_wp2_with (go_at_call 63; refine (HLX.out).mono ?_; rintro e w7 ⟨hb, v, rfl, hown⟩)
 obtain ⟨a, c, rfl⟩ := By hown
 have HB := Lib.hid hb
 clear hown hb
 go_quiet (fail)
 go_wp2_with fail
 go_ret2
 exact ⟨rfl, Aa (Aa HD.out HD.out.size HB.out) (Aa HD.out HD.out.size HB.out).size (Al _ _)⟩
set_option maxHeartbeats 1000000 in
set_option maxRecDepth 100000 in
theorem Qh (s : ByteArray) (w : World) (hs : s.size ≤ LIM) (hL : Laid w) (y : Int) (a : Nat) (hr : DL s = .error (y, a)) : Calls Tryz.prog 77 #[.agg #[.int .u8 1, .string s, .int .i64 0, .int .i64 0]] w fun e w' => e = .returned (.tuple #[.string ⟨#[]⟩, .int .i64 13]) ∧ Below w.heap.size w w' := by
 have hD := Ad (w := w) (.cells #[.int .u8 1, .string s, .int .i64 0, .int .i64 0] 158)
 have HLX := Lib.hid (G5 s _ hs (hL.below hD))
 rw [hr] at HLX
 have HD := Lib.hid hD
 clear hD hL hr
 by_cases hy : y = 0
 · subst hy
   go_enter Tryz.func77, Tryz.ntmps77
   go_wp2_with (go_at_call 63; refine (HLX.out).mono ?_; rintro e w7 ⟨hb, rfl⟩)
   have HB := Lib.hid hb
   clear hb
   go_quiet (fail)
   go_wp2_with fail
   go_ret2
   exact ⟨rfl, Aa (Aa HD.out HD.out.size HB.out) (Aa HD.out HD.out.size HB.out).size (Al _ _)⟩
 · have g1 : (y != 0) = true := by simpa using hy
   clear hy
   go_enter Tryz.func77, Tryz.ntmps77
   go_wp2_with (go_at_call 63; refine (HLX.out).mono ?_; rintro e w7 ⟨hb, rfl⟩)
   have HB := Lib.hid hb
   clear hb
   go_quiet (fail)
   go_wp2_with fail
   go_ret2
   exact ⟨rfl, Aa (Aa HD.out HD.out.size HB.out) (Aa HD.out HD.out.size HB.out).size (Al _ _)⟩
theorem GR (s : ByteArray) : ∀ (f a : Nat) (acc l : List TK), acc.length ≤ a → a ≤ s.size → EW s f a acc = .ok l → l.length ≤ s.size
 | 0, _, _, _, _, _, h => by simp [EW] at h
 | f + 1, a, acc, l, h1, h2, h => by
   obtain ⟨b, hb⟩ : ∃ b, a + AA AY (s.data.toList.drop a) = b := ⟨_, rfl⟩
   obtain ⟨r, hr⟩ : ∃ r, B0 (s.extract b s.size) (s.data.toList.getD b 0) = r := ⟨_, rfl⟩
   rw [Gl hb hr] at h
   have hrl := GE AY (s.data.toList.drop a)
   have hbs : b ≤ s.size := by simp at hrl; have h3 : s.data.size = s.size := rfl; omega
   split at h
   · cases h; omega
   · rename_i hne
     split at h
     · cases h
     · rename_i hwhy
       have hlt : b < s.size := by omega
       have hxh : (s.extract b s.size).data.toList.head? = some (s.data.toList.getD b 0) := by
        rw [EE, Gh, dif_pos hlt]; simp [List.getD, hlt]; rfl
       have hlen := JD hxh (by rw [hr]; simpa using hwhy)
       rw [hr, ByteArray.size_extract] at hlen
       exact GR s f _ _ _ (by simp; omega) (by omega) h
theorem F1 (s : ByteArray) (w : World) (hs : s.size ≤ LIM) (hL : Laid w) : Calls Tryz.prog 58 #[.string s] w fun e w' => e = .returned (.bool (BT s)) ∧ Below w.heap.size w w' := by
 have HS : Hid (Calls Tryz.prog 77 #[.agg #[.int .u8 1, .string s, .int .i64 0, .int .i64 0]] w fun e w' => (∃ x, e = .returned (.tuple #[.string x, .int .i64 (if BT s then 0 else 13)])) ∧ Below w.heap.size w w') := Lib.hid (by
   unfold BT
   cases hr : DL s with
   | error v =>
     obtain ⟨y, a⟩ := v
     exact (Qh s w hs hL y a hr).mono fun e w' ⟨h1, h2⟩ => ⟨⟨_, h1⟩, h2⟩
   | ok l =>
     have hle : l.length ≤ 1048576 := by
       unfold DL at hr
       split at hr
       · cases hr
       · have := GR s _ 0 [] l (Nat.le_refl _) (Nat.zero_le _) hr
         unfold LIM at hs
         omega
     match l, hr, hle with
     | [], hr, hle => exact (JI s w hs hL [] hr (by simp) hle).mono fun e w' ⟨h1, h2⟩ => ⟨⟨_, h1⟩, h2⟩
     | [t], hr, _ => exact (Qi s w hs hL t hr).mono fun e w' ⟨h1, h2⟩ => ⟨⟨_, h1⟩, h2⟩
     | t :: t' :: r, hr, hle => exact (JI s w hs hL _ hr (by simp) hle).mono fun e w' ⟨h1, h2⟩ => ⟨⟨_, h1⟩, h2⟩)
 cases hn : BT s with
 | true =>
   rw [hn] at HS
   simp only [if_true] at HS
   clear hn
   go_enter Tryz.func58, Tryz.ntmps58
   go_wp2_with (go_at_call 77; refine (HS.out).mono ?_; rintro e w7 ⟨⟨x, rfl⟩, hb⟩)
   go_ret
   exact ⟨rfl, hb⟩
 | false =>
   rw [hn] at HS
   simp only [Bool.false_eq_true, if_false] at HS
   clear hn
   go_enter Tryz.func58, Tryz.ntmps58
   go_wp2_with (go_at_call 77; refine (HS.out).mono ?_; rintro e w7 ⟨⟨x, rfl⟩, hb⟩)
   go_ret
   exact ⟨rfl, hb⟩
/- parse.number, strings.Split as the program uses it, parse.path. -/
theorem Lc {l : List UInt8} {v : Int} (h : Lib.parseIntB 64 l = .ok v) : v ≤ 9223372036854775807 := by
 unfold Lib.parseIntB at h
 split at h
 · cases h
 · simp only at h
   split at h
   · cases h
   · cases h
   · split at h
     · cases h
     · split at h
       · cases h
       · rename_i u _ h1 h2
         cases h
         split
         · omega
         · rename_i h3
           have : ¬ 9223372036854775808 ≤ u := fun e => h1 ⟨h3, e⟩
           omega
theorem PV (s : ByteArray) (w : World) (hs : s.size ≤ LIM) (hL : Laid w) : Calls Tryz.prog 78 #[.string s, .int .i64 10, .int .i64 64] w fun e w' =>
   ((∃ v : Int, Lib.parseIntB 64 s.data.toList = .ok v ∧ e = .returned (.tuple #[.int .i64 v, .nilIface])) ∨ ((∀ v, Lib.parseIntB 64 s.data.toList ≠ .ok v) ∧ ∃ (z : Int) (N : Nat), e = .returned (.tuple #[.int .i64 z, .iface 199 (.pointer (some ⟨N, 0, none⟩))]))) ∧ Below w.heap.size w w' := by
 unfold LIM at hs
 cases h : Lib.parseIntB 64 s.data.toList with
 | ok u => exact (Tryz.strconv_ParseInt_10_at64_ok s (by omega) u h w).mono fun e w' ⟨h1, h2⟩ => ⟨Or.inl ⟨u, rfl, h1⟩, by
    rcases h2 with rfl | ⟨t, rfl⟩
    · exact Below.refl _ _
    · exact D6 _ _ _⟩
 | range =>
   obtain ⟨tp, p, hv⟩ := hL.eran
   exact (Tryz.strconv_ParseInt_10_at64_range s (by omega) h _ w hv (Or.inr ⟨tp, p, rfl⟩)).mono fun e w' ⟨N, h1, _, _, h2⟩ => ⟨Or.inr ⟨by simp, _, N, h1⟩, h2⟩
 | _ =>
   obtain ⟨tp, p, hv⟩ := hL.esyn
   exact (Tryz.strconv_ParseInt_10_at64_syntax s (by omega) (by rw [h]; simp) (by rw [h]; simp) _ w hv (Or.inr ⟨tp, p, rfl⟩)).mono fun e w' ⟨N, h1, _, _, h2⟩ => ⟨Or.inr ⟨by simp, 0, N, h1⟩, h2⟩
theorem Pv (n : Int) (w : World) (hn : I64 n) (hL : Laid w) : Calls Tryz.prog 79 #[.int .i64 n, .int .i64 10] w fun e w' => e = .returned (.string ⟨(Lib.itoa n).toArray⟩) ∧ Below w.heap.size w w' :=
 (Tryz.strconv_FormatInt_10 n hn.1 hn.2 w hL.pow).mono fun e w' ⟨h1, k, os, h2⟩ => ⟨h1, by rw [h2]; exact Ih _ _ _⟩
def GD (s : ByteArray) : Bool := match Lib.parseIntB 64 s.data.toList with
 | .ok v => decide (0 ≤ v) && ((⟨(Lib.itoa v).toArray⟩ : ByteArray).toList == s.toList)
 | _ => false
set_option maxHeartbeats 1000000 in
theorem KZ (s : ByteArray) (w : World) (hs : s.size ≤ LIM) (hL : Laid w) : Calls Tryz.prog 59 #[.string s] w fun e w' => e = .returned (.bool (GD s)) ∧ Below w.heap.size w w' := by
 have HP0 := Lib.hid (PV s w hs hL)
 have HL := Lib.hid hL
 unfold GD
 by_cases hno : ∀ v, Lib.parseIntB 64 s.data.toList ≠ .ok v
 · have e : (match Lib.parseIntB 64 s.data.toList with | .ok v => decide (0 ≤ v) && ((⟨(Lib.itoa v).toArray⟩ : ByteArray).toList == s.toList) | _ => false) = false := by
     split
     · exact absurd ‹_› (hno _)
     · rfl
   rw [e]
   have HP : Hid (Calls Tryz.prog 78 #[.string s, .int .i64 10, .int .i64 64] w fun e w2 => (∃ (z : Int) (N : Nat), e = .returned (.tuple #[.int .i64 z, .iface 199 (.pointer (some ⟨N, 0, none⟩))])) ∧ Below w.heap.size w w2) := Lib.hid ((HP0.out).mono fun e w2 ⟨h1, h2⟩ => ⟨by
     rcases h1 with ⟨u, hu, _⟩ | ⟨_, h1⟩
     · exact absurd hu (hno u)
     · exact h1, h2⟩)
   clear hno e HP0 hL
   go_enter Tryz.func59, Tryz.ntmps59
   go_wp2_with (go_at_call 78; refine (HP.out).mono ?_; rintro e w2 ⟨⟨z, N, rfl⟩, hb2⟩)
   go_ret
   exact ⟨rfl, hb2⟩
 · obtain ⟨v, hv⟩ : ∃ v, Lib.parseIntB 64 s.data.toList = .ok v := Classical.byContradiction fun h => hno fun u e => h ⟨u, e⟩
   have HP : Hid (Calls Tryz.prog 78 #[.string s, .int .i64 10, .int .i64 64] w fun e w2 => e = .returned (.tuple #[.int .i64 v, .nilIface]) ∧ Below w.heap.size w w2) := Lib.hid ((HP0.out).mono fun e w2 ⟨h1, h2⟩ => ⟨by
     rcases h1 with ⟨u', hu', h1⟩ | ⟨h3, _⟩
     · rw [hv] at hu'; cases hu'; exact h1
     · exact absurd hv (h3 v), h2⟩)
   have hle := Lc hv
   rw [hv]
   simp only
   clear hno hv HP0 hL
   by_cases h0 : 0 ≤ v
   · have d1 : decide (0 ≤ v) = true := by simpa using h0
     have HF := Lib.hid (fun (w' : World) (hb : Below w.heap.size w w') => Pv v w' ⟨by omega, hle⟩ (HL.out.below hb))
     rw [d1, Bool.true_and]
     obtain ⟨q, hq⟩ : ∃ q : ByteArray, (⟨(Lib.itoa v).toArray⟩ : ByteArray) = q := ⟨_, rfl⟩
     rw [hq] at HF ⊢
     clear hq hle
     go_enter Tryz.func59, Tryz.ntmps59
     go_wp2_with (first | (go_at_call 78; refine (HP.out).mono ?_; rintro e w2 ⟨rfl, hb2⟩) | (go_at_call 79; refine (HF.out _ hb2).mono ?_; rintro e w3 ⟨rfl, hb3⟩))
     go_ret
     exact ⟨rfl, Aa hb2 hb2.size hb3⟩
   · have d1 : decide (0 ≤ v) = false := by simpa using h0
     rw [d1, Bool.false_and]
     clear hle
     go_enter Tryz.func59, Tryz.ntmps59
     go_wp2_with (go_at_call 78; refine (HP.out).mono ?_; rintro e w2 ⟨rfl, hb2⟩)
     go_ret
     exact ⟨rfl, hb2⟩
def Aw (s sep : ByteArray) : List ByteArray := Lib.splitB sep 0 (Lib.countB s sep) s
theorem C9 (sep : ByteArray) : ∀ (k : Nat) (s p : ByteArray), p ∈ Lib.splitB sep 0 k s → p.size ≤ s.size
 | 0, s, p, h => by rw [Lib.splitB_zero] at h; simp at h; subst h; omega
 | k + 1, s, p, h => by
   unfold Lib.splitB at h
   split at h
   · simp at h; subst h; omega
   · rcases List.mem_cons.1 h with h | h
     · subst h; rw [ByteArray.size_extract]; omega
     · have := C9 sep k _ p h
       rw [ByteArray.size_extract] at this; omega
theorem C8 (s sep : ByteArray) (h1 : 1 ≤ sep.size) : (Aw s sep).length = Lib.countB s sep + 1 := Lib.splitB_all sep h1 0 _ s rfl
theorem DI (s sep : ByteArray) (w : World) (hs : s.size ≤ LIM) (h1 : 1 ≤ sep.size) (hL : Laid w) : Calls Tryz.prog 57 #[.string s, .string sep] w fun e w' =>
  ∃ g, e = .returned (.slice (some ⟨g, 0, none⟩) (Aw s sep).length (Aw s sep).length) ∧ (∀ i, i < (Aw s sep).length → w'.cell? ⟨g, i, none⟩ = some (.string ((Aw s sep).getD i ⟨#[]⟩))) ∧ w.heap.size ≤ g ∧ g < w'.heap.size ∧ Below w.heap.size w w' := by
 unfold LIM at hs
 obtain ⟨m, hm⟩ := hL.maxl
 refine (Tryz.strings_Split s sep m w (by omega) hm h1).mono ?_
 rintro e w' ⟨rfl, rfl⟩
 rw [C8 s sep h1]
 refine ⟨w.heap.size, rfl, fun i hi => ?_, Nat.le_refl _, by simp, Ad _⟩
 rw [← C8 s sep h1] at hi
 unfold World.cell?
 rw [Ab w _]
 simp only
 have e : (Lib.splitB sep 0 (Lib.countB s sep) s) = Aw s sep := rfl
 rw [e]
 simp [List.getD, hi]
/- parse.path. -/
def Cl : ByteArray := ⟨#[46]⟩
def Fi : List ByteArray → Nat → Bool
 | [], _ => true
 | p :: r, i => if BT p || (decide (i ≠ 0) && GD p) then Fi r (i + 1) else false
def DZ (s : ByteArray) : Bool := Fi (Aw s Cl) 0 && decide (s.size ≤ 1024)
set_option maxHeartbeats 2000000 in
set_option maxRecDepth 100000 in
theorem F5 (s : ByteArray) (w : World) (hs : s.size ≤ LIM) (hL : Laid w) : Calls Tryz.prog 39 #[.string s] w fun e w' => e = .returned (.bool (DZ s)) ∧ Below w.heap.size w w' := by
 have HSP := Lib.hid (DI s Cl w hs (by decide) hL)
 have hsz : ∀ p ∈ Aw s Cl, p.size ≤ s.size := fun p hp => C9 Cl _ s p hp
 have hln := C8 s Cl (by decide)
 have hl0 : 0 < (Aw s Cl).length := by omega
 have hll : (Aw s Cl).length ≤ s.size + 1 := by
  have h := Lib.splitB_length_le Cl 0 (Lib.countB s Cl) s
  have h2 : Lib.countB s Cl ≤ s.size := Lib.countB_le Cl (by decide) s.size s (Nat.le_refl _)
  omega
 unfold DZ
 generalize Aw s Cl = l at *
 obtain ⟨z, hz⟩ : ∃ z, Fi l 0 = z := ⟨_, rfl⟩
 rw [hz]
 have HZ := Lib.hid hz
 have HSZ := Lib.hid hsz
 have HL := Lib.hid hL
 have hs2 : s.size ≤ 1048576 := hs
 clear hz hsz hln hL
 go_enter Tryz.func39, Tryz.ntmps39
 go_wp2_with (go_at_call 57; refine (HSP.out).mono ?_; rintro e w2 ⟨g, rfl, hc, hg1, hg2, hb2⟩; have HC := Lib.hid hc; have HB2 := Lib.hid hb2; clear hc hb2)
 go_loopw [8] (fun s8 wr => ∃ i : Nat, s8 = .int .i64 i ∧ i ≤ l.length ∧ Hid (Fi (l.drop i) i = z) ∧ Below w2.heap.size w2 wr) (fun s8 _ => l.length - (intOf s8).toNat)
 case atStart => exact ⟨0, rfl, Nat.zero_le _, HZ, Below.refl _ _⟩
 case round =>
  obtain ⟨i, rfl, hil, HH, hx⟩ := hrel
  have HBX := Lib.hid (Aa HB2.out HB2.out.size hx)
  have HX := Lib.hid hx
  clear hx HZ
  by_cases hlt : i < l.length
  · have hcell := Ac HX.out (HC.out i hlt)
    have hh := HH.out
    rw [List.drop_eq_getElem_cons hlt, Fi] at hh
    have hmem : l[i] ∈ l := List.getElem_mem hlt
    have hgd : l.getD i ⟨#[]⟩ = l[i] := by simp [List.getD, hlt]
    rw [hgd] at hcell
    have hpz := HSZ.out _ hmem
    obtain ⟨p, hp⟩ : ∃ p, l[i] = p := ⟨_, rfl⟩
    rw [hp] at hh hcell hpz
    have hpl : p.size ≤ LIM := by unfold LIM; omega
    have HN := Lib.hid (fun (w' : World) (hb : Below w.heap.size w w') => F1 p w' hpl (HL.out.below hb))
    have HM := Lib.hid (fun (w' : World) (hb : Below w.heap.size w w') => KZ p w' hpl (HL.out.below hb))
    clear hmem hgd hp hpz hpl HH
    cases hnb : BT p with
    | true =>
      rw [hnb] at HN hh
      rw [Bool.true_or, if_pos rfl] at hh
      have HHH := Lib.hid hh
      clear hnb hh
      go_wp2_with (go_at_call 58; refine (HN.out _ HBX.out).mono ?_; rintro e w7 ⟨rfl, hb7⟩)
      go_roundw
      case rel => exact ⟨i + 1, by go_num, by omega, HHH, Aa HX.out HX.out.size hb7⟩
      case measure => simp [intOf]; omega
    | false =>
      rw [hnb] at HN hh
      rw [Bool.false_or] at hh
      by_cases hi0 : i = 0
      · subst hi0
        rw [show decide ((0 : Nat) ≠ 0) = false from rfl, Bool.false_and, if_neg (by simp)] at hh
        have HHH := Lib.hid hh
        clear hnb hh
        go_wp2_with (go_at_call 58; refine (HN.out _ HBX.out).mono ?_; rintro e w7 ⟨rfl, hb7⟩)
        go_ret
        exact ⟨Ec (by rw [← HHH.out]; rfl), Aa HBX.out HBX.out.size hb7⟩
      · have e0 : ((i : Int) == 0) = false := by simp; omega
        have e1 : (i == 0) = false := by simpa using hi0
        rw [show decide (i ≠ 0) = true by simpa using hi0, Bool.true_and] at hh
        clear hi0
        cases hmb : GD p with
        | true =>
          rw [hmb] at HM hh
          rw [if_pos rfl] at hh
          have HHH := Lib.hid hh
          clear hnb hh hmb
          go_wp2_with (first | (go_at_call 58; refine (HN.out _ HBX.out).mono ?_; rintro e w7 ⟨rfl, hb7⟩) | (go_at_call 59; refine (HM.out _ (Aa HBX.out HBX.out.size hb7)).mono ?_; rintro e w8 ⟨rfl, hb8⟩))
          go_roundw
          case rel => exact ⟨i + 1, by go_num, by omega, HHH, Aa (Aa HX.out HX.out.size hb7) (Aa HX.out HX.out.size hb7).size hb8⟩
          case measure => simp [intOf]; omega
        | false =>
          rw [hmb] at HM hh
          rw [if_neg (by simp)] at hh
          have HHH := Lib.hid hh
          clear hnb hh hmb
          go_wp2_with (first | (go_at_call 58; refine (HN.out _ HBX.out).mono ?_; rintro e w7 ⟨rfl, hb7⟩) | (go_at_call 59; refine (HM.out _ (Aa HBX.out HBX.out.size hb7)).mono ?_; rintro e w8 ⟨rfl, hb8⟩))
          go_ret
          exact ⟨Ec (by rw [← HHH.out]; rfl), Aa (Aa HBX.out HBX.out.size hb7) (Aa HBX.out HBX.out.size hb7).size hb8⟩
  · have hh := HH.out
    rw [List.drop_of_length_le (by omega), Fi] at hh
    have HHH := Lib.hid hh
    have e1 : decide ((s.size : Int) ≤ 1024) = decide (s.size ≤ 1024) := decide_eq_decide.2 (by omega)
    have HE := Lib.hid e1
    clear hh HH e1
    go_wp2_with fail
    go_ret
    exact ⟨Ec (by rw [← HHH.out, HE.out]; rfl), HBX.out⟩
end Go.Proofs.YtbemgcjckchdjaaGreatDoor
