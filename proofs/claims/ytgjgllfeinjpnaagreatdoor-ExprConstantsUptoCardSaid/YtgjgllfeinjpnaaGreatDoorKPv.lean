import Derived.Test.YtgjgllfeinjpnaaGreatDoorKPs
/- parse.parser.signed, product, sum. -/
namespace Go.Proofs.YtgjgllfeinjpnaaGreatDoor
open Go.RowKit
set_option linter.unusedSimpArgs false
set_option linter.unusedVariables false
theorem txt_at {T : TypeId} (w : World) (p : Nat) (sv : Value) (vs : Array Value) (texts : List ByteArray) (hp : p < w.heap.size) (ho : sv.ownBlock ≠ some w.heap.size) (hl : texts.length ≤ 100) (hc : ∀ j, j < texts.length → vs[j]? = some (.string (texts.getD j ByteArray.empty))) :
    TxtAt (w.alloc (.cells vs T)) p sv (.slice (some ⟨w.heap.size, 0, none⟩) texts.length texts.length) texts :=
  ⟨_, _, rfl, hl, Or.inr ⟨w.heap.size, 0, rfl, by simp, by omega, ho, fun j hj => by
    rw [Nat.zero_add]
    unfold World.cell?
    rw [heap_last w _]
    exact hc j hj⟩⟩
theorem primary_does (p : Nat) : Does p 168 primaryP := ⟨fun args w => Tryz.call168 args w, fun d sv s s' w _ _ hP hs => primary_calls d p sv s s' w hP hs⟩
set_option maxHeartbeats 1000000 in
set_option maxRecDepth 100000 in
theorem signed_does (p : Nat) : Does p 167 signedP := by
  refine ⟨fun args w => Tryz.call167 args w, fun d sv s s' w hd0 hd1 hP hs => ?_⟩
  have H := Lib.hid (ahead_calls 5 ⟨#[45]⟩ 9 168 primaryP p (by decide) (primary_does p) 3 d sv s s' w hd0 hd1 hP hs)
  clear hP hs
  go_enter Tryz.func167, Tryz.ntmps167
  go_wp2_with (go_at_call 153; refine (H.out).mono ?_; rintro e wz ⟨rfl, sz, hpz, hfz⟩; have HPZ := Lib.hid hpz; have HFZ := Lib.hid hfz; clear hpz hfz)
  go_end0
  exact ⟨rfl, sz, HPZ.out, HFZ.out⟩
set_option maxHeartbeats 1000000 in
set_option maxRecDepth 100000 in
theorem product_does (p : Nat) : Does p 165 productP := by
  refine ⟨fun args w => Tryz.call165 args w, fun d sv s s' w hd0 hd1 hP hs => ?_⟩
  have hb0 := below_new (w := w) (.cells #[.string ⟨#[42]⟩] 9)
  have HF0 := Lib.hid (Fr.of_below (sv := sv) hb0 hP.lt)
  have hT := txt_at (T := 9) w p sv #[.string ⟨#[42]⟩] [⟨#[42]⟩] hP.lt hP.own_ne (by decide) (fun j hj => by
    match j, hj with
    | 0, _ => rfl)
  have H := Lib.hid (row_calls 5 [⟨#[42]⟩] 167 signedP p (signed_does p) 4 d _ sv s s' _ hd0 hd1 (hP.keep hb0) hT hs)
  have hl := hP.lt
  clear hP hs hb0 hT
  go_enter Tryz.func165, Tryz.ntmps165
  go_wp2_with (go_at_call 119; refine (H.out).mono ?_; rintro e wz ⟨rfl, sz, hpz, hfz⟩; have HPZ := Lib.hid hpz; have HFZ := Lib.hid hfz; clear hpz hfz)
  go_end0
  exact ⟨rfl, sz, HPZ.out, HF0.out.trans HFZ.out⟩
set_option maxHeartbeats 1000000 in
set_option maxRecDepth 100000 in
theorem sum_does (p : Nat) : Does p 162 sumP := by
  refine ⟨fun args w => Tryz.call162 args w, fun d sv s s' w hd0 hd1 hP hs => ?_⟩
  have hb0 := below_new (w := w) (.cells #[.string ⟨#[43]⟩, .string ⟨#[45]⟩] 9)
  have HF0 := Lib.hid (Fr.of_below (sv := sv) hb0 hP.lt)
  have hT := txt_at (T := 9) w p sv #[.string ⟨#[43]⟩, .string ⟨#[45]⟩] [⟨#[43]⟩, ⟨#[45]⟩] hP.lt hP.own_ne (by decide) (fun j hj => by
    match j, hj with
    | 0, _ => rfl
    | 1, _ => rfl)
  have H := Lib.hid (row_calls 5 [⟨#[43]⟩, ⟨#[45]⟩] 165 productP p (product_does p) 4 d _ sv s s' _ hd0 hd1 (hP.keep hb0) hT hs)
  have hl := hP.lt
  clear hP hs hb0 hT
  go_enter Tryz.func162, Tryz.ntmps162
  go_wp2_with (go_at_call 119; refine (H.out).mono ?_; rintro e wz ⟨rfl, sz, hpz, hfz⟩; have HPZ := Lib.hid hpz; have HFZ := Lib.hid hfz; clear hpz hfz)
  go_end0
  exact ⟨rfl, sz, HPZ.out, HF0.out.trans HFZ.out⟩
end Go.Proofs.YtgjgllfeinjpnaaGreatDoor
/- parse.parser.compared, without IS. -/
namespace Go.Proofs.YtgjgllfeinjpnaaGreatDoor
open Go.RowKit
set_option linter.unusedSimpArgs false
set_option linter.unusedVariables false
theorem take_next {k : Int} {texts : List ByteArray} {s : PSt} (h : takeP k texts s = none) : nextP k texts s.1 = false := by
  cases hn : nextP k texts s.1 with
  | false => rfl
  | true =>
    unfold takeP at h
    rw [hn, if_pos rfl] at h
    cases hsx : s.1 with
    | nil => rw [hsx] at hn; simp [nextP] at hn
    | cons a b => rw [hsx] at h; cases h
theorem take_some {k : Int} {texts : List ByteArray} {ts : List TK} {st : List ST} {t : TK} {s2 : PSt} (h : takeP k texts (ts, st) = some (t, s2)) : ∃ r, ts = t :: r ∧ s2 = (r, st) ∧ nextP k texts (t :: r) = true := by
  unfold takeP at h
  simp only at h
  split at h
  · rename_i hn
    cases ts with
    | nil => cases h
    | cons t0 r =>
      simp only [Option.some.injEq, Prod.mk.injEq] at h
      obtain ⟨rfl, rfl⟩ := h
      exact ⟨r, rfl, rfl, hn⟩
  · cases h
abbrev cmpsO : Obj := .cells #[.string ⟨#[61]⟩, .string ⟨#[60, 62]⟩, .string ⟨#[60]⟩, .string ⟨#[60, 61]⟩, .string ⟨#[62]⟩, .string ⟨#[62, 61]⟩] 9
theorem cmps_row (w : World) : TxtRow (w.alloc cmpsO) (.slice (some ⟨w.heap.size, 0, none⟩) 6 6) cmps :=
  ⟨_, _, rfl, by decide, Or.inr ⟨w.heap.size, 0, rfl, by simp, fun j hj => by
    rw [Nat.zero_add]
    unfold World.cell?
    rw [heap_last w _]
    have hj2 : j < 6 := hj
    obtain rfl | rfl | rfl | rfl | rfl | rfl : j = 0 ∨ j = 1 ∨ j = 2 ∨ j = 3 ∨ j = 4 ∨ j = 5 := by omega
    all_goals rfl⟩⟩
set_option maxHeartbeats 4000000 in
set_option maxRecDepth 100000 in
theorem compared_does (p : Nat) : Does p 154 comparedP := by
  refine ⟨fun args w => Tryz.call154 args w, fun d sv s s' w hd0 hd1 hP hs => ?_⟩
  unfold comparedP at hs
  cases h1 : sumP d s with
  | none => rw [h1] at hs; cases hs
  | some s1 =>
    rw [h1] at hs
    simp only at hs
    have H1 := Lib.hid ((sum_does p).2 d sv s s1 w hd0 hd1 hP h1)
    have hl := hP.lt
    cases ht : takeP 5 cmps s1 with
    | none =>
      rw [ht] at hs
      simp only at hs
      split at hs
      · cases hs
      · rename_i hi
        cases hs
        have HTK := Lib.hid (fun (w' : World) (v' : Value) (h : PS w' p v' s') => take_no 5 cmps _ p v' s' _ (h.keep (below_new cmpsO)) (cmps_row w') (take_next ht))
        have HKY := Lib.hid (fun (w' : World) (v' : Value) (h : PS w' p v' s') => key_no ⟨#[73, 83]⟩ p v' s' w' h (by simpa using hi))
        clear hP h1 ht hi
        go_enter Tryz.func154, Tryz.ntmps154
        go_upto_region 5 with (first | (go_at_call 162; refine (H1.out).mono ?_; rintro e w7 ⟨rfl, sv7, hp7, hf7⟩; have HP7 := Lib.hid hp7; have HF7 := Lib.hid hf7; have l7 := hp7.lt; clear hp7 hf7) | (go_at_call 93; refine (HTK.out _ _ HP7.out).mono ?_; rintro e w8 ⟨rfl, hb8⟩; have HB8 := Lib.hid (below_call0 (below_new _) (below_new _).size hb8); clear hb8))
        have HB9 := Lib.hid (below_call0 HB8.out HB8.out.size (below_new (.cells #[.int .u8 0, .string ⟨#[]⟩, .int .i64 0, .int .i64 0] 127)))
        have HK9 := Lib.hid (HKY.out _ _ (HP7.out.keep HB9.out))
        go_wp2_with (go_at_call 63; refine (HK9.out).mono ?_; rintro e wz ⟨rfl, hbz⟩; have HBZ := Lib.hid (below_call0 HB9.out HB9.out.size hbz); clear hbz)
        go_end0
        exact ⟨rfl, sv7, HP7.out.keep HBZ.out, HF7.out.trans (Fr.of_below HBZ.out HP7.out.lt)⟩
    | some v =>
      obtain ⟨t, s2⟩ := v
      rw [ht] at hs
      simp only at hs
      split at hs
      · rename_i hi0
        cases h3 : sumP d s2 with
        | none => rw [h3] at hs; cases hs
        | some s3 =>
          rw [h3] at hs
          simp only at hs
          obtain ⟨ts, st⟩ := s1
          obtain ⟨r, rfl, rfl, hn⟩ := take_some ht
          have HTK := Lib.hid (fun (w' : World) (v' : Value) (h : PS w' p v' (t :: r, st)) => take_yes 5 cmps _ p v' t r st _ (h.keep (below_new cmpsO)) (cmps_row w') hn)
          have HONE := Lib.hid (fun (w' : World) (v' : Value) (h : PS w' p v' (r, st)) => (sum_does p).2 d v' (r, st) s3 w' hd0 hd1 h h3)
          have hlt := idx_ops (t := t.t)
          have HIX := Lib.hid (fun (w' : World) (g : Nat) hc => index_calls g t.t w' hc)
          have HPUT := Lib.hid (fun (w' : World) (v' : Value) (h : PS w' p v' s3) => put_calls (opStep t.t) p v' s3 s' w' h hs)
          unfold opStep at HPUT
          simp only at HPUT
          generalize Lib.idxOfS ops t.t = z at *
          have hz1 : IntKind.u8.wrap z = z := by simp [IntKind.wrap, IntKind.bits, IntKind.signed]; omega
          have hz2 : IntKind.u8.wrap (12 + z) = 12 + z := by simp [IntKind.wrap, IntKind.bits, IntKind.signed]; omega
          clear hn h3 hs hP h1 ht
          go_enter Tryz.func154, Tryz.ntmps154
          go_upto_region 3 with (first | (go_at_call 162; refine (H1.out).mono ?_; rintro e w6 ⟨rfl, sv6, hp6, hf6⟩; have HP6 := Lib.hid hp6; have HF6 := Lib.hid hf6; have l6 := hp6.lt; clear hp6 hf6) | (go_at_call 93; refine (HTK.out _ _ HP6.out).mono ?_; rintro e w7 ⟨rfl, hp7, hf7⟩; have HP7 := Lib.hid hp7; have HF7 := Lib.hid ((Fr.of_below (sv := sv6) (below_new (w := w6) cmpsO) HP6.out.lt).trans hf7); clear hp7 hf7))
          clear H1
          go_upto_region 4 with (go_at_call 162; refine (HONE.out _ _ ((HP7.out).keep (below_new _))).mono ?_; rintro e w8 ⟨rfl, sv8, hp8, hf8⟩; have HP8 := Lib.hid hp8; have HF8 := Lib.hid hf8; clear hp8 hf8)
          have lp7 := HP7.out.lt
          have hne7 : sv6.ownBlock ≠ some w7.heap.size := HP7.out.own_ne
          have hk8 := (HF8.out.keep w7.heap.size (by simp) (by omega) hne7).trans (heap_last w7 (.cells #[.int .u8 t.k, .string t.t, .int .i64 t.n, .int .i64 t.a] 127))
          have hne8 : sv8.ownBlock ≠ some w7.heap.size := fun e => by
            rcases HF8.out.own _ e with h | h
            · exact hne7 h
            · simp at h; omega
          have HSD : Hid (w8.drew.cell? ⟨w7.heap.size, 1, none⟩ = some (.string t.t)) := Lib.hid (cells4 hk8).2.1
          have HPD : Hid (PS w8.drew p sv8 s3 ∧ Fr p sv8 w8 sv8 w8.drew) := Lib.hid (HP8.out.frame (Below.refl _ _).drew)
          have hs8 := HF8.out.size
          have l78 : w7.heap.size < w8.heap.size := by simp at hs8; omega
          have HSIM : Hid (∀ w' : World, Below w8.drew.heap.size w8.drew w' → w'.cell? ⟨w7.heap.size, 1, none⟩ = some (.string t.t)) := Lib.hid (fun w' hb => keepC hb HSD.out)
          have HFRM : Hid (∀ (w' wz : World) (sz : Value), Below w8.drew.heap.size w8.drew w' → Fr p sv8 w' sz wz → wz.cell? ⟨w7.heap.size, 1, none⟩ = some (.string t.t)) := Lib.hid (fun w' wz sz hb hf => (World.cell?_of_block (a := ⟨w7.heap.size, 1, none⟩) (hf.keep w7.heap.size (Nat.lt_of_lt_of_le l78 hb.size) (by omega) hne8)).trans (keepC hb HSD.out))
          clear hk8 hs8 hne7 hne8
          go_region_held3 (fun w' => w'.cell? ⟨w7.heap.size, 1, none⟩ = some (.string t.t))
            (first | (with_reducible exact HSD.out) | (with_reducible exact HS9.out) | (with_reducible exact HSZ.out))
            (first | (go_at_call 140; refine (operators_calls _).mono ?_; rintro e w9 ⟨g, rfl, hc9, hb9⟩; have HB9 := Lib.hid hb9; have HS9 : Hid (w9.cell? ⟨w7.heap.size, 1, none⟩ = some (.string t.t)) := Lib.hid (HSIM.out _ hb9); have HC9 := Lib.hid hc9; clear hc9 hb9) | (go_at_call 139; refine (HIX.out _ _ HC9.out).mono ?_; rintro e w10 ⟨rfl, rfl⟩) | (go_at_call 138; refine (HPUT.out _ _ (HPD.out.1.keep HB9.out)).mono ?_; rintro e wz ⟨rfl, sz, hpz, hfz⟩; have HSZ : Hid (wz.cell? ⟨w7.heap.size, 1, none⟩ = some (.string t.t)) := Lib.hid (HFRM.out _ _ _ HB9.out hfz); have HPZ := Lib.hid hpz; have HFZ := Lib.hid hfz; clear hpz hfz))
          all_goals
            go_wp2_with fail
            go_end0
            exact ⟨rfl, sz, HPZ.out, ((((HF6.out.trans HF7.out).trans (Fr.of_below (below_new _) lp7)).trans HF8.out).trans (HPD.out.2.trans (Fr.of_below HB9.out HPD.out.1.lt))).trans HFZ.out⟩
      · cases hs
end Go.Proofs.YtgjgllfeinjpnaaGreatDoor
