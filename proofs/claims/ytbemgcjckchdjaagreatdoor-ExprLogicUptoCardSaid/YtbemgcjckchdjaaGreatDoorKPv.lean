import Derived.Test.YtbemgcjckchdjaaGreatDoorKPs
/- parse.parser.signed, product, sum. -/
namespace Go.Proofs.YtbemgcjckchdjaaGreatDoor
open Go.RowKit
set_option linter.unusedSimpArgs false
set_option linter.unusedVariables false
theorem txt_at {T : TypeId} (w : World) (p : Nat) (sv : Value) (vs : Array Value) (texts : List ByteArray) (hp : p < w.heap.size) (ho : sv.ownBlock ≠ some w.heap.size) (hl : texts.length ≤ 100) (hc : ∀ j, j < texts.length → vs[j]? = some (.string (texts.getD j ByteArray.empty))) :
    TxtAt (w.alloc (.cells vs T)) p sv (.slice (some ⟨w.heap.size, 0, none⟩) texts.length texts.length) texts :=
  ⟨_, _, rfl, hl, Or.inr ⟨w.heap.size, 0, rfl, by simp, by omega, ho, fun j hj => by
    rw [Nat.zero_add]
    unfold World.cell?
    rw [heap_last w _]
    exact hc j hj⟩⟩
theorem primary_does (p : Nat) : Does p 189 primaryP := ⟨fun args w => Tryz.call189 args w, fun d sv s s' w _ _ hP hs => primary_calls d p sv s s' w hP hs⟩
set_option maxHeartbeats 1000000 in
set_option maxRecDepth 100000 in
theorem signed_does (p : Nat) : Does p 188 signedP := by
  refine ⟨fun args w => Tryz.call188 args w, fun d sv s s' w hd0 hd1 hP hs => ?_⟩
  have H := Lib.hid (ahead_calls 5 ⟨#[45]⟩ 9 189 primaryP p (by decide) (primary_does p) 3 d sv s s' w hd0 hd1 hP hs)
  clear hP hs
  go_enter Tryz.func188, Tryz.ntmps188
  go_wp2_with (go_at_call 181; refine (H.out).mono ?_; rintro e wz ⟨rfl, sz, hpz, hfz⟩; have HPZ := Lib.hid hpz; have HFZ := Lib.hid hfz; clear hpz hfz)
  go_end0
  exact ⟨rfl, sz, HPZ.out, HFZ.out⟩
set_option maxHeartbeats 1000000 in
set_option maxRecDepth 100000 in
theorem product_does (p : Nat) : Does p 187 productP := by
  refine ⟨fun args w => Tryz.call187 args w, fun d sv s s' w hd0 hd1 hP hs => ?_⟩
  have hb0 := below_new (w := w) (.cells #[.string ⟨#[42]⟩] 9)
  have HF0 := Lib.hid (Fr.of_below (sv := sv) hb0 hP.lt)
  have hT := txt_at (T := 9) w p sv #[.string ⟨#[42]⟩] [⟨#[42]⟩] hP.lt hP.own_ne (by decide) (fun j hj => by
    match j, hj with
    | 0, _ => rfl)
  have H := Lib.hid (row_calls 5 [⟨#[42]⟩] 188 signedP p (signed_does p) 4 d _ sv s s' _ hd0 hd1 (hP.keep hb0) hT hs)
  have hl := hP.lt
  clear hP hs hb0 hT
  go_enter Tryz.func187, Tryz.ntmps187
  go_wp2_with (go_at_call 146; refine (H.out).mono ?_; rintro e wz ⟨rfl, sz, hpz, hfz⟩; have HPZ := Lib.hid hpz; have HFZ := Lib.hid hfz; clear hpz hfz)
  go_end0
  exact ⟨rfl, sz, HPZ.out, HF0.out.trans HFZ.out⟩
set_option maxHeartbeats 1000000 in
set_option maxRecDepth 100000 in
theorem sum_does (p : Nat) : Does p 186 sumP := by
  refine ⟨fun args w => Tryz.call186 args w, fun d sv s s' w hd0 hd1 hP hs => ?_⟩
  have hb0 := below_new (w := w) (.cells #[.string ⟨#[43]⟩, .string ⟨#[45]⟩] 9)
  have HF0 := Lib.hid (Fr.of_below (sv := sv) hb0 hP.lt)
  have hT := txt_at (T := 9) w p sv #[.string ⟨#[43]⟩, .string ⟨#[45]⟩] [⟨#[43]⟩, ⟨#[45]⟩] hP.lt hP.own_ne (by decide) (fun j hj => by
    match j, hj with
    | 0, _ => rfl
    | 1, _ => rfl)
  have H := Lib.hid (row_calls 5 [⟨#[43]⟩, ⟨#[45]⟩] 187 productP p (product_does p) 4 d _ sv s s' _ hd0 hd1 (hP.keep hb0) hT hs)
  have hl := hP.lt
  clear hP hs hb0 hT
  go_enter Tryz.func186, Tryz.ntmps186
  go_wp2_with (go_at_call 146; refine (H.out).mono ?_; rintro e wz ⟨rfl, sz, hpz, hfz⟩; have HPZ := Lib.hid hpz; have HFZ := Lib.hid hfz; clear hpz hfz)
  go_end0
  exact ⟨rfl, sz, HPZ.out, HF0.out.trans HFZ.out⟩
end Go.Proofs.YtbemgcjckchdjaaGreatDoor
/- parse.parser.compared, without IS. -/
namespace Go.Proofs.YtbemgcjckchdjaaGreatDoor
open Go.RowKit
set_option linter.unusedSimpArgs false
set_option linter.unusedVariables false
theorem take_next {k : Int} {texts : List ByteArray} {s : PSt} (h : takeP k texts s = none) : nextP k texts s.1 = false := by
  cases hn : nextP k texts s.1 with
  | false => rfl
  | true =>
    unfold takeP at h
    rw [hn, if_pos rfl] at h
    cases hsx : s.1 with
    | nil => rw [hsx] at hn; simp [nextP] at hn
    | cons a b => rw [hsx] at h; cases h
theorem take_some {k : Int} {texts : List ByteArray} {ts : List TK} {st : List ST} {t : TK} {s2 : PSt} (h : takeP k texts (ts, st) = some (t, s2)) : ∃ r, ts = t :: r ∧ s2 = (r, st) ∧ nextP k texts (t :: r) = true := by
  unfold takeP at h
  simp only at h
  split at h
  · rename_i hn
    cases ts with
    | nil => cases h
    | cons t0 r =>
      simp only [Option.some.injEq, Prod.mk.injEq] at h
      obtain ⟨rfl, rfl⟩ := h
      exact ⟨r, rfl, rfl, hn⟩
  · cases h
abbrev cmpsO : Obj := .cells #[.string ⟨#[61]⟩, .string ⟨#[60, 62]⟩, .string ⟨#[60]⟩, .string ⟨#[60, 61]⟩, .string ⟨#[62]⟩, .string ⟨#[62, 61]⟩] 9
theorem cmps_row (w : World) : TxtRow (w.alloc cmpsO) (.slice (some ⟨w.heap.size, 0, none⟩) 6 6) cmps :=
  ⟨_, _, rfl, by decide, Or.inr ⟨w.heap.size, 0, rfl, by simp, fun j hj => by
    rw [Nat.zero_add]
    unfold World.cell?
    rw [heap_last w _]
    have hj2 : j < 6 := hj
    obtain rfl | rfl | rfl | rfl | rfl | rfl : j = 0 ∨ j = 1 ∨ j = 2 ∨ j = 3 ∨ j = 4 ∨ j = 5 := by omega
    all_goals rfl⟩⟩
set_option maxHeartbeats 4000000 in
set_option maxRecDepth 100000 in
theorem compared_does (p : Nat) : Does p 182 comparedP := by
  refine ⟨fun args w => Tryz.call182 args w, fun d sv s s' w hd0 hd1 hP hs => ?_⟩
  unfold comparedP at hs
  cases h1 : sumP d s with
  | none => rw [h1] at hs; cases hs
  | some s1 =>
    rw [h1] at hs
    simp only at hs
    have H1 := Lib.hid ((sum_does p).2 d sv s s1 w hd0 hd1 hP h1)
    have hl := hP.lt
    cases ht : takeP 5 cmps s1 with
    | none =>
      rw [ht] at hs
      simp only at hs
      split at hs
      · cases hs
      · rename_i hi
        cases hs
        have HTK := Lib.hid (fun (w' : World) (v' : Value) (h : PS w' p v' s') => take_no 5 cmps _ p v' s' _ (h.keep (below_new cmpsO)) (cmps_row w') (take_next ht))
        have HKY := Lib.hid (fun (w' : World) (v' : Value) (h : PS w' p v' s') => key_no ⟨#[73, 83]⟩ p v' s' w' h (by simpa using hi))
        clear hP h1 ht hi
        go_enter Tryz.func182, Tryz.ntmps182
        go_upto_region 5 with (first | (go_at_call 186; refine (H1.out).mono ?_; rintro e w7 ⟨rfl, sv7, hp7, hf7⟩; have HP7 := Lib.hid hp7; have HF7 := Lib.hid hf7; have l7 := hp7.lt; clear hp7 hf7) | (go_at_call 117; refine (HTK.out _ _ HP7.out).mono ?_; rintro e w8 ⟨rfl, hb8⟩; have HB8 := Lib.hid (below_call0 (below_new _) (below_new _).size hb8); clear hb8))
        have HB9 := Lib.hid (below_call0 HB8.out HB8.out.size (below_new (.cells #[.int .u8 0, .string ⟨#[]⟩, .int .i64 0, .int .i64 0] 158)))
        have HK9 := Lib.hid (HKY.out _ _ (HP7.out.keep HB9.out))
        go_wp2_with (go_at_call 86; refine (HK9.out).mono ?_; rintro e wz ⟨rfl, hbz⟩; have HBZ := Lib.hid (below_call0 HB9.out HB9.out.size hbz); clear hbz)
        go_end0
        exact ⟨rfl, sv7, HP7.out.keep HBZ.out, HF7.out.trans (Fr.of_below HBZ.out HP7.out.lt)⟩
    | some v =>
      obtain ⟨t, s2⟩ := v
      rw [ht] at hs
      simp only at hs
      split at hs
      · rename_i hi0
        cases h3 : sumP d s2 with
        | none => rw [h3] at hs; cases hs
        | some s3 =>
          rw [h3] at hs
          simp only at hs
          obtain ⟨ts, st⟩ := s1
          obtain ⟨r, rfl, rfl, hn⟩ := take_some ht
          have HTK := Lib.hid (fun (w' : World) (v' : Value) (h : PS w' p v' (t :: r, st)) => take_yes 5 cmps _ p v' t r st _ (h.keep (below_new cmpsO)) (cmps_row w') hn)
          have HONE := Lib.hid (fun (w' : World) (v' : Value) (h : PS w' p v' (r, st)) => (sum_does p).2 d v' (r, st) s3 w' hd0 hd1 h h3)
          have hlt := idx_ops (t := t.t)
          have HIX := Lib.hid (fun (w' : World) (g : Nat) hc => index_calls g t.t w' hc)
          have HPUT := Lib.hid (fun (w' : World) (v' : Value) (h : PS w' p v' s3) => put_calls (opStep t.t) p v' s3 s' w' h hs)
          unfold opStep at HPUT
          simp only at HPUT
          generalize Lib.idxOfS ops t.t = z at *
          have hz1 : IntKind.u8.wrap z = z := by simp [IntKind.wrap, IntKind.bits, IntKind.signed]; omega
          have hz2 : IntKind.u8.wrap (12 + z) = 12 + z := by simp [IntKind.wrap, IntKind.bits, IntKind.signed]; omega
          clear hn h3 hs hP h1 ht
          go_enter Tryz.func182, Tryz.ntmps182
          go_upto_region 3 with (first | (go_at_call 186; refine (H1.out).mono ?_; rintro e w6 ⟨rfl, sv6, hp6, hf6⟩; have HP6 := Lib.hid hp6; have HF6 := Lib.hid hf6; have l6 := hp6.lt; clear hp6 hf6) | (go_at_call 117; refine (HTK.out _ _ HP6.out).mono ?_; rintro e w7 ⟨rfl, hp7, hf7⟩; have HP7 := Lib.hid hp7; have HF7 := Lib.hid ((Fr.of_below (sv := sv6) (below_new (w := w6) cmpsO) HP6.out.lt).trans hf7); clear hp7 hf7))
          clear H1
          go_upto_region 4 with (go_at_call 186; refine (HONE.out _ _ ((HP7.out).keep (below_new _))).mono ?_; rintro e w8 ⟨rfl, sv8, hp8, hf8⟩; have HP8 := Lib.hid hp8; have HF8 := Lib.hid hf8; clear hp8 hf8)
          have lp7 := HP7.out.lt
          have hne7 : sv6.ownBlock ≠ some w7.heap.size := HP7.out.own_ne
          have hk8 := (HF8.out.keep w7.heap.size (by simp) (by omega) hne7).trans (heap_last w7 (.cells #[.int .u8 t.k, .string t.t, .int .i64 t.n, .int .i64 t.a] 158))
          have hne8 : sv8.ownBlock ≠ some w7.heap.size := fun e => by
            rcases HF8.out.own _ e with h | h
            · exact hne7 h
            · simp at h; omega
          have HSD : Hid (w8.drew.cell? ⟨w7.heap.size, 1, none⟩ = some (.string t.t)) := Lib.hid (cells4 hk8).2.1
          have HPD : Hid (PS w8.drew p sv8 s3 ∧ Fr p sv8 w8 sv8 w8.drew) := Lib.hid (HP8.out.frame (Below.refl _ _).drew)
          have hs8 := HF8.out.size
          have l78 : w7.heap.size < w8.heap.size := by simp at hs8; omega
          have HSIM : Hid (∀ w' : World, Below w8.drew.heap.size w8.drew w' → w'.cell? ⟨w7.heap.size, 1, none⟩ = some (.string t.t)) := Lib.hid (fun w' hb => keepC hb HSD.out)
          have HFRM : Hid (∀ (w' wz : World) (sz : Value), Below w8.drew.heap.size w8.drew w' → Fr p sv8 w' sz wz → wz.cell? ⟨w7.heap.size, 1, none⟩ = some (.string t.t)) := Lib.hid (fun w' wz sz hb hf => (World.cell?_of_block (a := ⟨w7.heap.size, 1, none⟩) (hf.keep w7.heap.size (Nat.lt_of_lt_of_le l78 hb.size) (by omega) hne8)).trans (keepC hb HSD.out))
          clear hk8 hs8 hne7 hne8
          go_region_held3 (fun w' => w'.cell? ⟨w7.heap.size, 1, none⟩ = some (.string t.t))
            (first | (with_reducible exact HSD.out) | (with_reducible exact HS9.out) | (with_reducible exact HSZ.out))
            (first | (go_at_call 171; refine (operators_calls _).mono ?_; rintro e w9 ⟨g, rfl, hc9, hb9⟩; have HB9 := Lib.hid hb9; have HS9 : Hid (w9.cell? ⟨w7.heap.size, 1, none⟩ = some (.string t.t)) := Lib.hid (HSIM.out _ hb9); have HC9 := Lib.hid hc9; clear hc9 hb9) | (go_at_call 170; refine (HIX.out _ _ HC9.out).mono ?_; rintro e w10 ⟨rfl, rfl⟩) | (go_at_call 169; refine (HPUT.out _ _ (HPD.out.1.keep HB9.out)).mono ?_; rintro e wz ⟨rfl, sz, hpz, hfz⟩; have HSZ : Hid (wz.cell? ⟨w7.heap.size, 1, none⟩ = some (.string t.t)) := Lib.hid (HFRM.out _ _ _ HB9.out hfz); have HPZ := Lib.hid hpz; have HFZ := Lib.hid hfz; clear hpz hfz))
          all_goals
            go_wp2_with fail
            go_end0
            exact ⟨rfl, sz, HPZ.out, ((((HF6.out.trans HF7.out).trans (Fr.of_below (below_new _) lp7)).trans HF8.out).trans (HPD.out.2.trans (Fr.of_below HB9.out HPD.out.1.lt))).trans HFZ.out⟩
      · cases hs
end Go.Proofs.YtbemgcjckchdjaaGreatDoor
/- parse.parser.not, and, or. -/
namespace Go.Proofs.YtbemgcjckchdjaaGreatDoor
open Go.RowKit
set_option linter.unusedSimpArgs false
set_option linter.unusedVariables false
set_option maxHeartbeats 1000000 in
set_option maxRecDepth 100000 in
theorem not_does (p : Nat) : Does p 172 notP := by
  refine ⟨fun args w => Tryz.call172 args w, fun d sv s s' w hd0 hd1 hP hs => ?_⟩
  have H := Lib.hid (ahead_calls 2 ⟨#[78, 79, 84]⟩ 10 182 comparedP p (by decide) (compared_does p) 3 d sv s s' w hd0 hd1 hP hs)
  clear hP hs
  go_enter Tryz.func172, Tryz.ntmps172
  go_wp2_with (go_at_call 181; refine (H.out).mono ?_; rintro e wz ⟨rfl, sz, hpz, hfz⟩; have HPZ := Lib.hid hpz; have HFZ := Lib.hid hfz; clear hpz hfz)
  go_end0
  exact ⟨rfl, sz, HPZ.out, HFZ.out⟩
set_option maxHeartbeats 1000000 in
set_option maxRecDepth 100000 in
theorem and_does (p : Nat) : Does p 147 andP := by
  refine ⟨fun args w => Tryz.call147 args w, fun d sv s s' w hd0 hd1 hP hs => ?_⟩
  have hb0 := below_new (w := w) (.cells #[.string ⟨#[65, 78, 68]⟩] 9)
  have HF0 := Lib.hid (Fr.of_below (sv := sv) hb0 hP.lt)
  have hT := txt_at (T := 9) w p sv #[.string ⟨#[65, 78, 68]⟩] [⟨#[65, 78, 68]⟩] hP.lt hP.own_ne (by decide) (fun j hj => by
    match j, hj with
    | 0, _ => rfl)
  have H := Lib.hid (row_calls 2 [⟨#[65, 78, 68]⟩] 172 notP p (not_does p) 4 d _ sv s s' _ hd0 hd1 (hP.keep hb0) hT hs)
  have hl := hP.lt
  clear hP hs hb0 hT
  go_enter Tryz.func147, Tryz.ntmps147
  go_wp2_with (go_at_call 146; refine (H.out).mono ?_; rintro e wz ⟨rfl, sz, hpz, hfz⟩; have HPZ := Lib.hid hpz; have HFZ := Lib.hid hfz; clear hpz hfz)
  go_end0
  exact ⟨rfl, sz, HPZ.out, HF0.out.trans HFZ.out⟩
set_option maxHeartbeats 1000000 in
set_option maxRecDepth 100000 in
theorem or_does (p : Nat) : Does p 119 orP := by
  refine ⟨fun args w => Tryz.call119 args w, fun d sv s s' w hd0 hd1 hP hs => ?_⟩
  have hb0 := below_new (w := w) (.cells #[.string ⟨#[79, 82]⟩] 9)
  have HF0 := Lib.hid (Fr.of_below (sv := sv) hb0 hP.lt)
  have hT := txt_at (T := 9) w p sv #[.string ⟨#[79, 82]⟩] [⟨#[79, 82]⟩] hP.lt hP.own_ne (by decide) (fun j hj => by
    match j, hj with
    | 0, _ => rfl)
  have H := Lib.hid (row_calls 2 [⟨#[79, 82]⟩] 147 andP p (and_does p) 4 d _ sv s s' _ hd0 hd1 (hP.keep hb0) hT hs)
  have hl := hP.lt
  clear hP hs hb0 hT
  go_enter Tryz.func119, Tryz.ntmps119
  go_wp2_with (go_at_call 146; refine (H.out).mono ?_; rintro e wz ⟨rfl, sz, hpz, hfz⟩; have HPZ := Lib.hid hpz; have HFZ := Lib.hid hfz; clear hpz hfz)
  go_end0
  exact ⟨rfl, sz, HPZ.out, HF0.out.trans HFZ.out⟩
end Go.Proofs.YtbemgcjckchdjaaGreatDoor
/- parse.parser.expr, where, stmt (of a DELETE with a condition). -/
namespace Go.Proofs.YtbemgcjckchdjaaGreatDoor
open Go.RowKit
set_option linter.unusedSimpArgs false
set_option linter.unusedVariables false
def StepsPost (p : Nat) (sv : Value) (w : World) (s : PSt) (e : Ending) (w' : World) : Prop := ∃ sv', e = .returned sv' ∧ PS w' p sv' s ∧ Fr p sv w sv' w'
theorem PS.clear {w : World} {p : Nat} {sv : Value} {s : PSt} (h : PS w p sv s) : PS (w.setCell ⟨p, 4, none⟩ (.slice none 0 0)) p (.slice none 0 0) (s.1, []) ∧ Fr p sv w (.slice none 0 0) (w.setCell ⟨p, 4, none⟩ (.slice none 0 0)) := by
  have hl := h.lt
  have hf := fr_set (o := 4) (sv := sv) (v := .slice none 0 0) hl (Below.refl _ w)
  obtain ⟨left, E, a, hB, hT, hO⟩ := h
  refine ⟨⟨left, E, a, heap_setCell_same _ _ 4 _ _ _ hB, hT.below hf.below, World.ownsRow_nil _ _ _ _⟩, hf.below, hf.size, hf.keep, fun b e => by cases e⟩
theorem PS.sets {w : World} {p g o : Nat} {sv : Value} {s : PSt} {us : List Value} (h : PS w p sv s) (hg : p < g) (ho : sv.ownBlock ≠ some g) : PS (w.setCells g o us) p sv s := by
  obtain ⟨left, E, a, hB, hT, hO⟩ := h
  exact ⟨left, E, a, blk_sets (by omega) _ _ _ hB, hT.below (setCells_below (Nat.le_of_lt hg) _ _ _ (Below.refl _ _)), owns_sets ho _ _ _ hO⟩
set_option maxHeartbeats 1000000 in
set_option maxRecDepth 100000 in
theorem pexpr_calls (p : Nat) (sv : Value) (s s' : PSt) (w : World) (hP : PS w p sv s) (hs : orP 0 (s.1, []) = some s') :
    Calls Tryz.prog 90 #[.pointer (some ⟨p, 0, none⟩)] w (StepsPost p sv w s') := by
  obtain ⟨h0, hf0⟩ := hP.clear
  have HF0 := Lib.hid hf0
  have H := Lib.hid ((or_does p).2 0 _ _ s' _ (by decide) (by decide) h0 hs)
  obtain ⟨left, E, a, hB, _, _⟩ := hP
  obtain ⟨b0, b1, b2, b3, b4, b5⟩ := cells5 hB
  clear h0 hf0 hs hB
  go_enter Tryz.func90, Tryz.ntmps90
  go_upto_region 3 with (go_at_call 119; refine (H.out).mono ?_; rintro e wz ⟨rfl, sz, hpz, hfz⟩; have HPZ := Lib.hid hpz; have HFZ := Lib.hid hfz; clear hpz hfz)
  clear b0 b1 b2 b3 b4 b5
  have hpz := HPZ.out
  obtain ⟨A, c, rfl, _, _⟩ := owns_val (by obtain ⟨_, _, _, _, _, h⟩ := hpz; exact h)
  obtain ⟨left', E', a', hB', _, _⟩ := hpz
  obtain ⟨b0, b1, b2, b3, b4, b5⟩ := cells5 hB'
  clear hB'
  go_wp2_with fail
  go_ret
  exact ⟨_, rfl, HPZ.out, HF0.out.trans HFZ.out⟩
set_option maxHeartbeats 1000000 in
set_option maxRecDepth 100000 in
theorem where_calls (p : Nat) (sv : Value) (t : TK) (r : List TK) (st : List ST) (s' : PSt) (w : World) (hP : PS w p sv (t :: r, st)) (hn : nextP 2 [kwWHERE] (t :: r) = true) (hs : orP 0 (r, []) = some s') :
    Calls Tryz.prog 92 #[.pointer (some ⟨p, 0, none⟩)] w (StepsPost p sv w s') := by
  have H1 := Lib.hid (key_yes kwWHERE p sv t r st w hP hn)
  have H2 := Lib.hid (fun (w' : World) (h : PS w' p sv (r, st)) => pexpr_calls p sv (r, st) s' w' h hs)
  unfold kwWHERE at H1
  have hl := hP.lt
  clear hP hn hs
  go_enter Tryz.func92, Tryz.ntmps92
  go_wp2_with (first | (go_at_call 86; refine (H1.out).mono ?_; rintro e w7 ⟨rfl, hp7, hf7⟩; have HP7 := Lib.hid hp7; have HF7 := Lib.hid hf7; clear hp7 hf7) | (go_at_call 90; refine (H2.out _ HP7.out).mono ?_; rintro e wz ⟨sz, rfl, hpz, hfz⟩; have HPZ := Lib.hid hpz; have HFZ := Lib.hid hfz; clear hpz hfz))
  go_ret
  exact ⟨_, rfl, HPZ.out, HF7.out.trans HFZ.out⟩
abbrev stmtV (k : Int) (t : ByteArray) (sv : Value) : Value := .agg #[.int .u8 k, .string t, .string ⟨#[]⟩, .slice none 0 0, sv, .bool false, .bool false]
abbrev stmtO (k : Int) (t : ByteArray) (sv : Value) : Obj := .cells #[.int .u8 k, .string t, .string ⟨#[]⟩, .slice none 0 0, sv, .bool false, .bool false] 95
theorem cells7' {w : World} {b : Nat} {a0 a1 a2 a3 a4 a5 a6 : Value} {T : TypeId} (h : w.heap[b]? = some (.cells #[a0, a1, a2, a3, a4, a5, a6] T (0, 0))) :
    w.cell? ⟨b, 0, none⟩ = some a0 ∧ w.cell? ⟨b, 1, none⟩ = some a1 ∧ w.cell? ⟨b, 2, none⟩ = some a2 ∧ w.cell? ⟨b, 3, none⟩ = some a3 ∧ w.cell? ⟨b, 4, none⟩ = some a4 ∧ w.cell? ⟨b, 5, none⟩ = some a5 ∧ w.cell? ⟨b, 6, none⟩ = some a6 ∧ (∀ o, w.frozen? ⟨b, o, none⟩ = false) := by
  simp [World.cell?, World.frozen?, h]
theorem next_word {k : Int} {x : ByteArray} {t : TK} {r : List TK} (h : nextP k [x] (t :: r) = true) : t.t = x := by
  unfold nextP at h
  simp only [Bool.and_eq_true, List.isEmpty_cons, Bool.false_or] at h
  have := (Lib.containsS_iff _ _).1 h.2
  simpa using this
theorem next_not {k : Int} {x y : ByteArray} {t : TK} {r : List TK} (h : nextP k [x] (t :: r) = true) (hy : Lib.containsS [y] x = false) : nextP k [y] (t :: r) = false := by
  have e := next_word h
  show (t.k == k && ([y].isEmpty || Lib.containsS [y] t.t)) = false
  rw [e, hy]
  simp
theorem fr_new {p g : Nat} {sv sv' : Value} {w w' : World} {o : Obj} (hf : Fr p sv w sv' w') (hg : w.heap[g]? = some o) (hp : g ≠ p) (ho : sv.ownBlock ≠ some g) : w'.heap[g]? = some o ∧ sv'.ownBlock ≠ some g := by
  have hlt : g < w.heap.size := lt_of_block hg
  refine ⟨(hf.keep g hlt hp ho).trans hg, fun e => ?_⟩
  rcases hf.own g e with h | h
  · exact ho h
  · omega
set_option maxHeartbeats 4000000 in
set_option maxRecDepth 100000 in
theorem stmt_calls (p : Nat) (sv : Value) (t1 t2 t3 t4 : TK) (ts : List TK) (st : List ST) (s' : PSt) (w : World) (hP : PS w p sv (t1 :: t2 :: t3 :: t4 :: ts, st)) (h1 : nextP 2 [kwDELETE] (t1 :: t2 :: t3 :: t4 :: ts) = true) (h2 : nextP 2 [kwFROM] (t2 :: t3 :: t4 :: ts) = true)
    (h3 : nextP 1 [] (t3 :: t4 :: ts) = true) (h4 : nextP 2 [kwWHERE] (t4 :: ts) = true) (hs : orP 0 (ts, []) = some s') :
    Calls Tryz.prog 64 #[.pointer (some ⟨p, 0, none⟩)] w fun e w' => ∃ sv', e = .returned (stmtV 5 t3.t sv') ∧ PS w' p sv' s' ∧ Fr p sv w sv' w' := by
  have hb0 := below_new (w := w) (stmtO 0 ⟨#[]⟩ (.slice none 0 0))
  have HF0 := Lib.hid (Fr.of_below (sv := sv) hb0 hP.lt)
  have HP0 := Lib.hid (hP.keep hb0)
  have HX0 := Lib.hid (heap_last w (stmtO 0 ⟨#[]⟩ (.slice none 0 0)))
  have hne := hP.own_ne
  have hl := hP.lt
  have n1 := next_not (y := ⟨#[67, 82, 69, 65, 84, 69]⟩) h1 (by decide)
  have n2 := next_not (y := ⟨#[73, 78, 83, 69, 82, 84]⟩) h1 (by decide)
  have n3 := next_not (y := ⟨#[85, 80, 68, 65, 84, 69]⟩) h1 (by decide)
  have HK1 := Lib.hid (fun (w' : World) (h : PS w' p sv (t1 :: t2 :: t3 :: t4 :: ts, st)) => key_no ⟨#[67, 82, 69, 65, 84, 69]⟩ p sv _ w' h n1)
  have HK2 := Lib.hid (fun (w' : World) (h : PS w' p sv (t1 :: t2 :: t3 :: t4 :: ts, st)) => key_no ⟨#[73, 78, 83, 69, 82, 84]⟩ p sv _ w' h n2)
  have HK3 := Lib.hid (fun (w' : World) (h : PS w' p sv (t1 :: t2 :: t3 :: t4 :: ts, st)) => key_no ⟨#[85, 80, 68, 65, 84, 69]⟩ p sv _ w' h n3)
  have HK4 := Lib.hid (fun (w' : World) (h : PS w' p sv (t1 :: t2 :: t3 :: t4 :: ts, st)) => key_yes kwDELETE p sv _ _ _ w' h h1)
  have HK5 := Lib.hid (fun (w' : World) (v' : Value) (tb : Nat) (h : PS w' p v' (t2 :: t3 :: t4 :: ts, st)) (hx : w'.cell? ⟨tb, 0, none⟩ = some (.string kwFROM)) => keys_one kwFROM tb p v' _ _ _ w' h hx h2)
  have HK6 := Lib.hid (fun (w' : World) (v' : Value) (h : PS w' p v' (t3 :: t4 :: ts, st)) => cname_yes p v' _ _ _ w' h h3)
  have HK7 := Lib.hid (fun (w' : World) (v' : Value) (h : PS w' p v' (t4 :: ts, st)) => where_calls p v' _ _ _ s' w' h h4 hs)
  unfold kwDELETE at HK4
  unfold kwFROM at HK5
  obtain ⟨tt, htt⟩ : ∃ x, t3.t = x := ⟨_, rfl⟩
  rw [htt] at HK6 ⊢
  clear hP h1 h2 h3 h4 hs n1 n2 n3 hb0 htt
  go_enter Tryz.func64, Tryz.ntmps64
  go_upto_region 20 with (first | (go_at_call 86; ((with_reducible refine (HK1.out _ HP0.out).mono ?_); rintro e w1 ⟨rfl, hb1⟩; have HP1 := Lib.hid (HP0.out.keep hb1); have HF1 := Lib.hid (HF0.out.trans (Fr.of_below hb1 HP0.out.lt)); have HX1 := Lib.hid (blk hb1 HX0.out); clear hb1)) | (go_at_call 86; ((with_reducible refine (HK2.out _ HP1.out).mono ?_); rintro e w2 ⟨rfl, hb2⟩; have HP2 := Lib.hid (HP1.out.keep hb2); have HF2 := Lib.hid (HF1.out.trans (Fr.of_below hb2 HP1.out.lt)); have HX2 := Lib.hid (blk hb2 HX1.out); clear hb2)) | (go_at_call 86; ((with_reducible refine (HK3.out _ HP2.out).mono ?_); rintro e w3 ⟨rfl, hb3⟩; have HP3 := Lib.hid (HP2.out.keep hb3); have HF3 := Lib.hid (HF2.out.trans (Fr.of_below hb3 HP2.out.lt)); have HX3 := Lib.hid (blk hb3 HX2.out); clear hb3)) | (go_at_call 86; ((with_reducible refine (HK4.out _ HP3.out).mono ?_); rintro e w4 ⟨rfl, hp4, hf4⟩; have HX4 := Lib.hid (fr_new hf4 HX3.out (by omega) hne).1; have HP4 := Lib.hid hp4; have HF4 := Lib.hid (HF3.out.trans hf4); have lw4 := hp4.lt; clear hp4 hf4)))
  have hb5 := below_new (w := w4) (.cells #[.string ⟨#[70, 82, 79, 77]⟩] 9)
  have HP5 := Lib.hid (HP4.out.keep hb5)
  have HF5 := Lib.hid (HF4.out.trans (Fr.of_below hb5 lw4))
  have HX5 := Lib.hid (blk hb5 HX4.out)
  have HC5 := Lib.hid (cell1 (heap_last w4 (.cells #[.string ⟨#[70, 82, 79, 77]⟩] 9))).1
  clear hb5 HP0 HP1 HP2 HP3 HF0 HF1 HF2 HF3 HX0 HX1 HX2 HX3 HK1 HK2 HK3 HK4
  go_upto_region 21 with (go_at_call 88; refine (HK5.out _ _ _ HP5.out HC5.out).mono ?_; rintro e w6 ⟨rfl, sv6, hp6, hf6⟩; have hx6 := fr_new hf6 HX5.out (by omega) hne; have HX6 := Lib.hid hx6.1; have HN6 := Lib.hid hx6.2; have HP6 := Lib.hid hp6; have HF6 := Lib.hid (HF5.out.trans hf6); clear hx6 hp6 hf6)
  clear HK5 HP5 HF5 HX5 HC5 HP4 HF4 HX4
  go_upto_region 22 with (go_at_call 87; refine (HK6.out _ _ HP6.out).mono ?_; rintro e w7 ⟨rfl, hp7, hf7⟩; have hx7 := fr_new hf7 HX6.out (by omega) HN6.out; obtain ⟨z0, z1, z2, z3, z4, z5, z6, z7⟩ := cells7' hx7.1; have HX7 := Lib.hid hx7.1; have HP7 := Lib.hid hp7; have HF7 := Lib.hid (HF6.out.trans hf7); clear hx7 hp7 hf7)
  have hx8 : (w7.setCells w.heap.size 0 [.int .u8 5, .string tt]).heap[w.heap.size]? = some (stmtO 5 tt (.slice none 0 0)) := heap_setCell_same _ _ 1 _ _ _ (heap_setCell_same _ _ 0 _ _ _ HX7.out)
  have hp8 := HP7.out.sets (o := 0) (us := [.int .u8 5, .string tt]) hl HN6.out
  have hf8 := fr_sets (o := 0) (us := [.int .u8 5, .string tt]) HF7.out hl (Nat.le_refl _)
  change ((w7.setCell ⟨w.heap.size, 0, none⟩ (.int .u8 5)).setCell ⟨w.heap.size, 1, none⟩ (.string tt)).heap[w.heap.size]? = _ at hx8
  change PS ((w7.setCell ⟨w.heap.size, 0, none⟩ (.int .u8 5)).setCell ⟨w.heap.size, 1, none⟩ (.string tt)) p sv6 _ at hp8
  change Fr p sv w sv6 ((w7.setCell ⟨w.heap.size, 0, none⟩ (.int .u8 5)).setCell ⟨w.heap.size, 1, none⟩ (.string tt)) at hf8
  generalize (w7.setCell ⟨w.heap.size, 0, none⟩ (.int .u8 5)).setCell ⟨w.heap.size, 1, none⟩ (.string tt) = w8 at *
  have HX8 := Lib.hid hx8
  have HP8 := Lib.hid hp8
  have HF8 := Lib.hid hf8
  clear hx8 hp8 hf8 z0 z1 z2 z3 z4 z5 z6 z7
  go_wp2_with (go_at_call 92; refine (HK7.out _ _ HP8.out).mono ?_; rintro e w9 ⟨sv9, rfl, hp9, hf9⟩; obtain ⟨A9, c9, rfl, _, _⟩ := owns_val (by obtain ⟨_, _, _, _, _, h⟩ := hp9; exact h); have hx9 := fr_new hf9 HX8.out (by omega) HN6.out; obtain ⟨z0, z1, z2, z3, z4, z5, z6, z7⟩ := cells7' hx9.1; have HN9 := Lib.hid hx9.2; have HP9 := Lib.hid hp9; have HF9 := Lib.hid (HF8.out.trans hf9); clear hx9 hp9 hf9)
  refine bodyPost_ret (v := stmtV 5 tt (.slice A9 s'.2.length c9)) (by simp [results, Tryz.results64, go_sem, cell_set_same, z0, z1, z2, z3, z4, z5, z6]) rfl ?_
  have h1 := (HP9.out.sets (o := 4) (us := [.slice A9 s'.2.length c9]) hl HN9.out).sets (o := 0) (us := [.int .u8 5, .string tt, .string ⟨#[]⟩, .slice none 0 0, .slice A9 s'.2.length c9, .bool false, .bool false]) hl HN9.out
  have h2 := fr_sets (o := 0) (us := [.int .u8 5, .string tt, .string ⟨#[]⟩, .slice none 0 0, .slice A9 s'.2.length c9, .bool false, .bool false]) (fr_sets (o := 4) (us := [.slice A9 s'.2.length c9]) HF9.out hl (Nat.le_refl _)) hl (Nat.le_refl _)
  exact ⟨_, rfl, h1, h2⟩
end Go.Proofs.YtbemgcjckchdjaaGreatDoor
