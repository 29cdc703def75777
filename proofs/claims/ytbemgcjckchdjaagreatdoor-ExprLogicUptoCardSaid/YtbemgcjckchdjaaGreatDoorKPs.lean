import Derived.Test.YtbemgcjckchdjaaGreatDoorKPp
import Derived.Deep.LoopGhost
import Derived.Deep.RegionHeld3
/- parse.parser.primary: an int, a text, a name. -/
namespace Go.Proofs.YtbemgcjckchdjaaGreatDoor
open Go.RowKit
set_option linter.unusedSimpArgs false
set_option linter.unusedVariables false
abbrev constsO : Obj := .map #[{ key := .string ⟨#[78, 85, 76, 76]⟩, val := .int .u8 1, born := 0 }, { key := .string ⟨#[84, 82, 85, 69]⟩, val := .int .u8 2, born := 1 }, { key := .string ⟨#[70, 65, 76, 83, 69]⟩, val := .int .u8 3, born := 2 }] 3
set_option maxHeartbeats 2000000 in
set_option maxRecDepth 100000 in
theorem primary_int (d : Int) (p : Nat) (sv : Value) (t : TK) (r : List TK) (st : List ST) (s' : PSt) (w : World) (hP : PS w p sv (t :: r, st)) (n3 : nextP 3 [] (t :: r) = true) (hput : putP ⟨4, E0, t.n⟩ (r, st) = some s') :
    Calls Tryz.prog 189 #[.pointer (some ⟨p, 0, none⟩), .int .i64 d] w (UnitPost p sv w s') := by
  have hb0 := below_new (w := w) constsO
  have HF0 := Lib.hid (Fr.of_below (sv := sv) hb0 hP.lt)
  have hP0 := hP.keep hb0
  have hl := hP.lt
  have hmm := @run_makeMap Tryz.prog
  have i1 := insK1
  have i2 := insK2
  have i3 := insK3
  have HN30 := next_calls 3 [] (.slice none 0 0) p sv (t :: r, st) _ hP0 (txt_nil _)
  rw [n3] at HN30
  have HN3 := Lib.hid HN30
  clear HN30
  have HT := Lib.hid (take_yes 3 [] (.slice none 0 0) p sv t r st _ hP0 (txt_nil _) n3)
  have HU := Lib.hid (fun (w' : World) (h : PS w' p sv (r, st)) => put_calls ⟨4, E0, t.n⟩ p sv (r, st) s' w' h hput)
  clear hP hput hb0 hP0 n3
  go_enter Tryz.func189, Tryz.ntmps189
  go_upto_region 3 with (go_at_call 145; refine (HN3.out).mono ?_; rintro e w7 ⟨rfl, rfl⟩)
  clear i1 i2 i3 hmm
  go_wp2_with (first | (go_at_call 117; refine (HT.out).mono ?_; rintro e w7 ⟨rfl, hp7, hf7⟩; have HP7 := Lib.hid hp7; have HF7 := Lib.hid hf7; clear hp7 hf7) | (go_at_call 169; refine (HU.out _ ((HP7.out).keep (below_new _))).mono ?_; rintro e wz ⟨rfl, sz, hpz, hfz⟩; have HPZ := Lib.hid hpz; have HFZ := Lib.hid hfz; clear hpz hfz))
  go_end0
  exact ⟨rfl, sz, HPZ.out, ((HF0.out.trans HF7.out).trans (Fr.of_below (below_new _) HP7.out.lt)).trans HFZ.out⟩
set_option maxHeartbeats 2000000 in
set_option maxRecDepth 100000 in
theorem primary_text (d : Int) (p : Nat) (sv : Value) (t : TK) (r : List TK) (st : List ST) (s' : PSt) (w : World) (hP : PS w p sv (t :: r, st)) (n3 : nextP 3 [] (t :: r) = false) (n4 : nextP 4 [] (t :: r) = true) (hput : putP ⟨5, t.t, 0⟩ (r, st) = some s') :
    Calls Tryz.prog 189 #[.pointer (some ⟨p, 0, none⟩), .int .i64 d] w (UnitPost p sv w s') := by
  have hb0 := below_new (w := w) constsO
  have HF0 := Lib.hid (Fr.of_below (sv := sv) hb0 hP.lt)
  have hP0 := hP.keep hb0
  have hl := hP.lt
  have hmm := @run_makeMap Tryz.prog
  have i1 := insK1
  have i2 := insK2
  have i3 := insK3
  have HN30 := next_calls 3 [] (.slice none 0 0) p sv (t :: r, st) _ hP0 (txt_nil _)
  rw [n3] at HN30
  have HN3 := Lib.hid HN30
  clear HN30
  have HN40 := next_calls 4 [] (.slice none 0 0) p sv (t :: r, st) _ hP0 (txt_nil _)
  rw [n4] at HN40
  have HN4 := Lib.hid HN40
  clear HN40
  have HT := Lib.hid (take_yes 4 [] (.slice none 0 0) p sv t r st _ hP0 (txt_nil _) n4)
  have HU := Lib.hid (fun (w' : World) (h : PS w' p sv (r, st)) => put_calls ⟨5, t.t, 0⟩ p sv (r, st) s' w' h hput)
  clear hP hput hb0 hP0 n3 n4
  go_enter Tryz.func189, Tryz.ntmps189
  go_upto_region 6 with (first | (go_at_call 145; with_reducible refine (HN3.out).mono ?_; rintro e w7 ⟨rfl, rfl⟩) | (go_at_call 145; with_reducible refine (HN4.out).mono ?_; rintro e w7 ⟨rfl, rfl⟩))
  clear i1 i2 i3 hmm
  go_wp2_with (first | (go_at_call 117; refine (HT.out).mono ?_; rintro e w7 ⟨rfl, hp7, hf7⟩; have HP7 := Lib.hid hp7; have HF7 := Lib.hid hf7; clear hp7 hf7) | (go_at_call 169; refine (HU.out _ ((HP7.out).keep (below_new _))).mono ?_; rintro e wz ⟨rfl, sz, hpz, hfz⟩; have HPZ := Lib.hid hpz; have HFZ := Lib.hid hfz; clear hpz hfz))
  go_end0
  exact ⟨rfl, sz, HPZ.out, ((HF0.out.trans HF7.out).trans (Fr.of_below (below_new _) HP7.out.lt)).trans HFZ.out⟩
set_option maxHeartbeats 2000000 in
set_option maxRecDepth 100000 in
theorem primary_word (d : Int) (p : Nat) (sv : Value) (t : TK) (r : List TK) (st : List ST) (s' : PSt) (w : World) (hP : PS w p sv (t :: r, st)) (n3 : nextP 3 [] (t :: r) = false) (n4 : nextP 4 [] (t :: r) = false) (n1 : nextP 1 [] (t :: r) = true) (hput : pathP (t :: r, st) = some s') :
    Calls Tryz.prog 189 #[.pointer (some ⟨p, 0, none⟩), .int .i64 d] w (UnitPost p sv w s') := by
  have hb0 := below_new (w := w) constsO
  have HF0 := Lib.hid (Fr.of_below (sv := sv) hb0 hP.lt)
  have hP0 := hP.keep hb0
  have hl := hP.lt
  have hmm := @run_makeMap Tryz.prog
  have i1 := insK1
  have i2 := insK2
  have i3 := insK3
  have HN30 := next_calls 3 [] (.slice none 0 0) p sv (t :: r, st) _ hP0 (txt_nil _)
  rw [n3] at HN30
  have HN3 := Lib.hid HN30
  clear HN30
  have HN40 := next_calls 4 [] (.slice none 0 0) p sv (t :: r, st) _ hP0 (txt_nil _)
  rw [n4] at HN40
  have HN4 := Lib.hid HN40
  clear HN40
  have HN10 := next_calls 1 [] (.slice none 0 0) p sv (t :: r, st) _ hP0 (txt_nil _)
  rw [n1] at HN10
  have HN1 := Lib.hid HN10
  clear HN10
  have HU := Lib.hid (ppath_calls p sv (t :: r, st) s' _ hP0 hput)
  clear hP hput hb0 hP0 n3 n4 n1
  go_enter Tryz.func189, Tryz.ntmps189
  go_upto_region 9 with (first | (go_at_call 145; with_reducible refine (HN3.out).mono ?_; rintro e w7 ⟨rfl, rfl⟩) | (go_at_call 145; with_reducible refine (HN4.out).mono ?_; rintro e w7 ⟨rfl, rfl⟩) | (go_at_call 145; with_reducible refine (HN1.out).mono ?_; rintro e w7 ⟨rfl, rfl⟩))
  clear i1 i2 i3 hmm
  go_wp2_with (go_at_call 190; refine (HU.out).mono ?_; rintro e wz ⟨rfl, sz, hpz, hfz⟩; have HPZ := Lib.hid hpz; have HFZ := Lib.hid hfz; clear hpz hfz)
  go_end0
  exact ⟨rfl, sz, HPZ.out, HF0.out.trans HFZ.out⟩
theorem primary_calls (d : Int) (p : Nat) (sv : Value) (s s' : PSt) (w : World) (hP : PS w p sv s) (hs : primaryP d s = some s') :
    Calls Tryz.prog 189 #[.pointer (some ⟨p, 0, none⟩), .int .i64 d] w (UnitPost p sv w s') := by
  obtain ⟨ts, st⟩ := s
  cases ts with
  | nil => simp [primaryP, nextP] at hs
  | cons t r =>
    unfold primaryP takeP at hs
    simp only at hs
    cases n3 : nextP 3 [] (t :: r) with
    | true =>
      simp only [n3, if_true] at hs
      exact primary_int d p sv t r st s' w hP n3 hs
    | false =>
      cases n4 : nextP 4 [] (t :: r) with
      | true =>
        simp only [n3, n4, if_true, Bool.false_eq_true, if_false] at hs
        exact primary_text d p sv t r st s' w hP n3 n4 hs
      | false =>
        cases n1 : nextP 1 [] (t :: r) with
        | true =>
          simp only [n3, n4, n1, if_true, Bool.false_eq_true, if_false] at hs
          exact primary_word d p sv t r st s' w hP n3 n4 n1 hs
        | false => simp [n3, n4, n1] at hs
end Go.Proofs.YtbemgcjckchdjaaGreatDoor
/- parse.parser.ahead, over whatever stands behind the signs. -/
namespace Go.Proofs.YtbemgcjckchdjaaGreatDoor
open Go.RowKit
set_option linter.unusedSimpArgs false
set_option linter.unusedVariables false
/-- a function value of the parser's does what a pure step says -/
def Does (p : Nat) (fo : FuncId) (g : Int → PSt → Option PSt) : Prop := (∀ (args : Array Value) (w : World), (callFunc fo args).run Tryz.prog w = .ok (.enter fo args) w) ∧ ∀ (d : Int) (sv : Value) (s s' : PSt) (w : World), 0 ≤ d → d ≤ 100 → PS w p sv s → g d s = some s' → Calls Tryz.prog fo #[.pointer (some ⟨p, 0, none⟩), .int .i64 d] w (UnitPost p sv w s')
theorem nest_lt {d : Int} {s s' : PSt} (h : nestP d s = some s') : d < 16 := by
  unfold nestP at h
  split at h
  · assumption
  · cases h
set_option maxHeartbeats 2000000 in
set_option maxRecDepth 100000 in
theorem ahead_calls (k : Int) (text : ByteArray) (step : Int) (fo : FuncId) (other : Int → PSt → Option PSt) (p : Nat) (hst : 0 ≤ step ∧ step ≤ 255) (HO : Does p fo other) : ∀ (f : Nat) (d : Int) (sv : Value) (s s' : PSt) (w : World), 0 ≤ d → d ≤ 100 → PS w p sv s → aheadP k text step other f d s = some s' →
    Calls Tryz.prog 181 #[.pointer (some ⟨p, 0, none⟩), .int .u8 k, .string text, .int .u8 step, .int .i64 d, .func (.func fo) #[.pointer (some ⟨p, 0, none⟩)] #[]] w (UnitPost p sv w s') := by
  intro f
  induction f with
  | zero => intro d sv s s' w _ _ _ h; cases h
  | succ f ih =>
    intro d sv s s' w hd0 hd1 hP hs
    have hb0 := below_new (w := w) (.cells #[.string text] 9)
    have HF0 := Lib.hid (Fr.of_below (sv := sv) hb0 hP.lt)
    have hP0 := hP.keep hb0
    have HN0 := next_calls k [text] _ p sv s _ hP0 (txt_one w text 9)
    have hl := hP.lt
    rw [aheadP] at hs
    have hcf := HO.1
    cases hn : nextP k [text] s.1 with
    | false =>
      rw [hn] at HN0 hs
      rw [if_neg (by simp)] at hs
      have HN := Lib.hid HN0
      have HC := Lib.hid (HO.2 d sv s s' _ hd0 hd1 hP0 hs)
      clear HN0 hs hP hP0 hb0 hn HO ih
      go_enter Tryz.func181, Tryz.ntmps181
      go_wp2_with (first | (go_at_call 145; refine (HN.out).mono ?_; rintro e w7 ⟨rfl, rfl⟩) | ((with_reducible refine (HC.out).mono ?_); rintro e wz ⟨rfl, sz, hpz, hfz⟩; have HPZ := Lib.hid hpz; have HFZ := Lib.hid hfz; clear hpz hfz))
      go_end0
      exact ⟨rfl, sz, HPZ.out, HF0.out.trans HFZ.out⟩
    | true =>
      rw [hn] at HN0 hs
      rw [if_pos rfl] at hs
      cases h1 : nestP d s with
      | none => rw [h1] at hs; cases hs
      | some s1 =>
        rw [h1] at hs
        simp only at hs
        cases h2 : aheadP k text step other f (d + 1) s1 with
        | none => rw [h2] at hs; cases hs
        | some s2 =>
          rw [h2] at hs
          simp only at hs
          have hlt := nest_lt h1
          have HN := Lib.hid HN0
          have HE := Lib.hid (nest_yes d p sv s s1 _ hP0 h1 hd0)
          have HA := Lib.hid (fun (w' : World) (h : PS w' p sv s1) => ih (d + 1) sv s1 s2 w' (by omega) (by omega) h h2)
          have HU := Lib.hid (fun (w' : World) (sv2 : Value) (h : PS w' p sv2 s2) => put_calls ⟨step, E0, 0⟩ p sv2 s2 s' w' h hs)
          have hw : IntKind.i64.wrap (d + 1) = d + 1 := IntWalk.i64_in _ (by omega)
          clear HN0 hs hP hP0 hb0 hn HO ih h1 h2 hd1
          go_enter Tryz.func181, Tryz.ntmps181
          go_wp2_with (first | (go_at_call 145; refine (HN.out).mono ?_; rintro e w7 ⟨rfl, rfl⟩) | (go_at_call 185; refine (HE.out).mono ?_; rintro e w7 ⟨rfl, hp7, hf7⟩; have HP7 := Lib.hid hp7; have HF7 := Lib.hid hf7; clear hp7 hf7) | (go_at_call 181; refine (HA.out _ HP7.out).mono ?_; rintro e w8 ⟨rfl, sv8, hp8, hf8⟩; have HP8 := Lib.hid hp8; have HF8 := Lib.hid hf8; clear hp8 hf8) | (go_at_call 169; refine (HU.out _ _ HP8.out).mono ?_; rintro e wz ⟨rfl, sz, hpz, hfz⟩; have HPZ := Lib.hid hpz; have HFZ := Lib.hid hfz; clear hpz hfz))
          go_end0
          exact ⟨rfl, sz, HPZ.out, ((HF0.out.trans HF7.out).trans HF8.out).trans HFZ.out⟩
end Go.Proofs.YtbemgcjckchdjaaGreatDoor
/- parse.operators; parse.parser.row, over whatever stands between the operators. -/
namespace Go.Proofs.YtbemgcjckchdjaaGreatDoor
open Go.RowKit
set_option linter.unusedSimpArgs false
set_option linter.unusedVariables false
abbrev opsO : Obj := .cells #[.string ⟨#[43]⟩, .string ⟨#[45]⟩, .string ⟨#[42]⟩, .string ⟨#[61]⟩, .string ⟨#[60, 62]⟩, .string ⟨#[60]⟩, .string ⟨#[60, 61]⟩, .string ⟨#[62]⟩, .string ⟨#[62, 61]⟩, .string ⟨#[65, 78, 68]⟩, .string ⟨#[79, 82]⟩] 9
theorem operators_calls (w : World) : Calls Tryz.prog 171 #[] w fun e w' => ∃ g, e = .returned (.slice (some ⟨g, 0, none⟩) 11 11) ∧ (∀ j, j < ops.length → w'.cell? ⟨g, 0 + j, none⟩ = some (.string (ops.getD j ByteArray.empty))) ∧ Below w.heap.size w w' := by
  have h := heap_last w opsO
  have hc : ∀ j, j < ops.length → (w.alloc opsO).cell? ⟨w.heap.size, 0 + j, none⟩ = some (.string (ops.getD j ByteArray.empty)) := by
    intro i hi
    rw [Nat.zero_add]
    unfold World.cell?
    rw [h]
    have hi2 : i < 11 := hi
    obtain rfl | rfl | rfl | rfl | rfl | rfl | rfl | rfl | rfl | rfl | rfl : i = 0 ∨ i = 1 ∨ i = 2 ∨ i = 3 ∨ i = 4 ∨ i = 5 ∨ i = 6 ∨ i = 7 ∨ i = 8 ∨ i = 9 ∨ i = 10 := by omega
    all_goals rfl
  have HC := Lib.hid hc
  clear h hc
  go_enter Tryz.func171, Tryz.ntmps171
  go_wp2
  go_ret
  exact ⟨w.heap.size, rfl, HC.out, below_new _⟩
theorem idxFromS_lt (x : ByteArray) : ∀ (l : List ByteArray) (i : Nat), Lib.idxFromS l x i < (i : Int) + l.length
  | [], i => by simp [Lib.idxFromS]; omega
  | z :: r, i => by
    unfold Lib.idxFromS
    split
    · simp; omega
    · have := idxFromS_lt x r (i + 1)
      simp only [List.length_cons]
      push_cast at this ⊢
      omega
theorem idx_ops {t : ByteArray} : Lib.idxOfS ops t < 11 := by
  have h := idxFromS_lt t ops 0
  have e : ((0 : Nat) : Int) + ops.length = 11 := rfl
  rw [e] at h
  exact h
theorem index_calls (g : Nat) (t : ByteArray) (w : World) (hc : ∀ j, j < ops.length → w.cell? ⟨g, 0 + j, none⟩ = some (.string (ops.getD j ByteArray.empty))) :
    Calls Tryz.prog 170 #[.slice (some ⟨g, 0, none⟩) 11 11, .string t] w fun e w' => e = .returned (.int .i64 (Lib.idxOfS ops t)) ∧ w' = w :=
  Tryz.slices_Index_string g 0 11 11 ops t w (by decide) (by omega) hc
theorem PS.own_ne {w : World} {p : Nat} {sv : Value} {s : PSt} (h : PS w p sv s) : sv.ownBlock ≠ some w.heap.size := by
  obtain ⟨_, _, _, _, _, hO⟩ := h
  intro e
  have := (hO.lt _ e).2
  omega
/-- what stands while an operator's step is put together -/
def OpAt (p : Nat) (sv : Value) (s : PSt) (g : Nat) (t : ByteArray) (W w' : World) : Prop := PS w' p sv s ∧ Fr p sv W sv w' ∧ w'.cell? ⟨g, 1, none⟩ = some (.string t)
theorem OpAt.keep {p : Nat} {sv : Value} {s : PSt} {g : Nat} {t : ByteArray} {W w w' : World} (h : OpAt p sv s g t W w) (hb : Below w.heap.size w w') : OpAt p sv s g t W w' :=
  ⟨h.1.keep hb, h.2.1.trans (Fr.of_below hb h.1.lt), keepC hb h.2.2⟩
set_option maxHeartbeats 4000000 in
set_option maxRecDepth 100000 in
theorem row_calls (k : Int) (texts : List ByteArray) (fo : FuncId) (one : Int → PSt → Option PSt) (p : Nat) (HO : Does p fo one) (f : Nat) (d : Int) (tv sv : Value) (s s' : PSt) (w : World) (hd0 : 0 ≤ d) (hd1 : d ≤ 100) (hP : PS w p sv s) (hT : TxtAt w p sv tv texts) (hs : rowP k texts one f d s = some s') :
    Calls Tryz.prog 146 #[.pointer (some ⟨p, 0, none⟩), .int .u8 k, .func (.func fo) #[.pointer (some ⟨p, 0, none⟩)] #[], .int .i64 d, tv] w (UnitPost p sv w s') := by
  unfold rowP at hs
  cases h1 : one d s with
  | none => rw [h1] at hs; cases hs
  | some s1 =>
    rw [h1] at hs
    simp only at hs
    have HC := Lib.hid (HO.2 d sv s s1 w hd0 hd1 hP h1)
    have hcf := HO.1
    have HH := Lib.hid HO
    have HT := Lib.hid hT
    have HS := Lib.hid hs
    clear hs h1 hT hP HO
    obtain ⟨ta, tc, rfl, _⟩ := HT.out
    go_enter Tryz.func146, Tryz.ntmps146
    go_wp2_with ((with_reducible refine (HC.out).mono ?_); rintro e w1 ⟨rfl, s1v, hp1, hf1⟩; have HP1 := Lib.hid hp1; have HF1 := Lib.hid hf1; clear hp1 hf1)
    go_loopg [10] f (fun kk s10 wr => ∃ (rv : Value) (sx : PSt), Hid (rowsP k texts one kk d sx = some s') ∧ PS wr p rv sx ∧ Fr p sv w rv wr)
    case atStart => exact ⟨s1v, s1, HS, HP1.out, HF1.out⟩
    case round =>
      obtain ⟨rv, sx, HR, hp, hf⟩ := hrel
      have hr := HR.out
      cases gk with
      | zero => cases hr
      | succ kk =>
        rw [rowsP] at hr
        have HP := Lib.hid hp
        have HF := Lib.hid hf
        have HTX := Lib.hid (HT.out.fr hf).row
        clear hp hf HR HP1 HF1 HC HS
        cases ht : takeP k texts sx with
        | none =>
          rw [ht] at hr
          simp only [Option.some.injEq] at hr
          obtain rfl := hr
          have hn : nextP k texts sx.1 = false := by
            cases hn : nextP k texts sx.1 with
            | false => rfl
            | true =>
              unfold takeP at ht
              rw [hn, if_pos rfl] at ht
              cases hsx : sx.1 with
              | nil => rw [hsx] at hn; simp [nextP] at hn
              | cons a b => rw [hsx] at ht; cases ht
          have HTK := Lib.hid (take_no k texts _ p rv sx wr HP.out HTX.out hn)
          clear ht hn
          have lp := HP.out.lt
          go_wp2_with (go_at_call 117; refine (HTK.out).mono ?_; rintro e w8 ⟨rfl, hb8⟩; have HB8 := Lib.hid hb8; clear hb8)
          go_end0
          have hP8 := HP.out.keep HB8.out
          exact ⟨rfl, rv, hP8.keep (below_new _), (HF.out.trans (Fr.of_below HB8.out HP.out.lt)).trans (Fr.of_below (below_new _) hP8.lt)⟩
        | some v =>
          obtain ⟨t, s2⟩ := v
          rw [ht] at hr
          simp only at hr
          split at hr
          · rename_i hi0
            cases h3 : one d s2 with
            | none => rw [h3] at hr; cases hr
            | some s3 =>
              rw [h3] at hr
              simp only at hr
              cases h4 : putP (opStep t.t) s3 with
              | none => rw [h4] at hr; cases hr
              | some s4 =>
                rw [h4] at hr
                simp only at hr
                obtain ⟨ts, st⟩ := sx
                unfold takeP at ht
                simp only at ht
                split at ht
                · rename_i hn
                  cases ts with
                  | nil => cases ht
                  | cons t0 r =>
                    simp only [Option.some.injEq, Prod.mk.injEq] at ht
                    obtain ⟨rfl, rfl⟩ := ht
                    have HTK := Lib.hid (take_yes k texts _ p rv t0 r st wr HP.out HTX.out hn)
                    have HONE := Lib.hid (fun (w' : World) (h : PS w' p rv (r, st)) => HH.out.2 d rv (r, st) s3 w' hd0 hd1 h h3)
                    have hlt := idx_ops (t := t0.t)
                    have HIX := Lib.hid (fun (w' : World) (g : Nat) hc => index_calls g t0.t w' hc)
                    have HPUT := Lib.hid (fun (w' : World) (v' : Value) (h : PS w' p v' s3) => put_calls (opStep t0.t) p v' s3 s4 w' h h4)
                    unfold opStep at HPUT
                    simp only at HPUT
                    have HR2 := Lib.hid hr
                    generalize Lib.idxOfS ops t0.t = z at *
                    have hz1 : IntKind.u8.wrap z = z := by simp [IntKind.wrap, IntKind.bits, IntKind.signed]; omega
                    have hz2 : IntKind.u8.wrap (12 + z) = 12 + z := by simp [IntKind.wrap, IntKind.bits, IntKind.signed]; omega
                    clear hn h3 h4 hr HTX
                    go_upto_region 4 with (first | (go_at_call 117; refine (HTK.out).mono ?_; rintro e w7 ⟨rfl, hp7, hf7⟩; have HP7 := Lib.hid hp7; have HF7 := Lib.hid hf7; clear hp7 hf7) | ((with_reducible refine (HONE.out _ ((HP7.out).keep (below_new _))).mono ?_); rintro e w8 ⟨rfl, sv8, hp8, hf8⟩; have HP8 := Lib.hid hp8; have HF8 := Lib.hid hf8; clear hp8 hf8))
                    have lp7 := HP7.out.lt
                    have hne7 : rv.ownBlock ≠ some w7.heap.size := HP7.out.own_ne
                    have hk8 := (HF8.out.keep w7.heap.size (by simp) (by omega) hne7).trans (heap_last w7 (.cells #[.int .u8 t0.k, .string t0.t, .int .i64 t0.n, .int .i64 t0.a] 158))
                    have hne8 : sv8.ownBlock ≠ some w7.heap.size := fun e => by
                      rcases HF8.out.own _ e with h | h
                      · exact hne7 h
                      · simp at h; omega
                    have HSD : Hid (w8.drew.cell? ⟨w7.heap.size, 1, none⟩ = some (.string t0.t)) := Lib.hid (cells4 hk8).2.1
                    have HPD : Hid (PS w8.drew p sv8 s3 ∧ Fr p sv8 w8 sv8 w8.drew) := Lib.hid (HP8.out.frame (Below.refl _ _).drew)
                    have hs8 := HF8.out.size
                    have l78 : w7.heap.size < w8.heap.size := by simp at hs8; omega
                    have HSIM : Hid (∀ w' : World, Below w8.drew.heap.size w8.drew w' → w'.cell? ⟨w7.heap.size, 1, none⟩ = some (.string t0.t)) := Lib.hid (fun w' hb => keepC hb HSD.out)
                    have HFRM : Hid (∀ (w' wz : World) (sz : Value), Below w8.drew.heap.size w8.drew w' → Fr p sv8 w' sz wz → wz.cell? ⟨w7.heap.size, 1, none⟩ = some (.string t0.t)) := Lib.hid (fun w' wz sz hb hf => (World.cell?_of_block (a := ⟨w7.heap.size, 1, none⟩) (hf.keep w7.heap.size (Nat.lt_of_lt_of_le l78 hb.size) (by omega) hne8)).trans (keepC hb HSD.out))
                    clear hk8 hs8 hne7 hne8
                    go_region_held3 (fun w' => w'.cell? ⟨w7.heap.size, 1, none⟩ = some (.string t0.t))
                      (first | (with_reducible exact HSD.out) | (with_reducible exact HS9.out) | (with_reducible exact HSZ.out))
                      (first | (go_at_call 171; refine (operators_calls _).mono ?_; rintro e w9 ⟨g, rfl, hc9, hb9⟩; have HB9 := Lib.hid hb9; have HS9 : Hid (w9.cell? ⟨w7.heap.size, 1, none⟩ = some (.string t0.t)) := Lib.hid (HSIM.out _ hb9); have HC9 := Lib.hid hc9; clear hc9 hb9) | (go_at_call 170; refine (HIX.out _ _ HC9.out).mono ?_; rintro e w10 ⟨rfl, rfl⟩) | (go_at_call 169; refine (HPUT.out _ _ (HPD.out.1.keep HB9.out)).mono ?_; rintro e wz ⟨rfl, sz, hpz, hfz⟩; have HSZ : Hid (wz.cell? ⟨w7.heap.size, 1, none⟩ = some (.string t0.t)) := Lib.hid (HFRM.out _ _ _ HB9.out hfz); have HPZ := Lib.hid hpz; have HFZ := Lib.hid hfz; clear hpz hfz))
                    all_goals
                      go_wp2_with fail
                      go_roundg kk
                      case measure => omega
                      case rel => exact ⟨sz, s4, HR2, HPZ.out, ((((HF.out.trans HF7.out).trans (Fr.of_below (below_new _) lp7)).trans HF8.out).trans (HPD.out.2.trans (Fr.of_below HB9.out HPD.out.1.lt))).trans HFZ.out⟩
                · cases ht
          · cases hr
end Go.Proofs.YtbemgcjckchdjaaGreatDoor
