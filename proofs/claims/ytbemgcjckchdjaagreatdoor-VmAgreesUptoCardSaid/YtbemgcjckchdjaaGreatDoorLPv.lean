import Derived.Test.YtbemgcjckchdjaaGreatDoorLPp
/- parse.parser.signed, product, sum. -/
namespace Go.Proofs.YtbemgcjckchdjaaGreatDoor
open Go.RowKit
set_option linter.unusedSimpArgs false
set_option linter.unusedVariables false
theorem I9 {T : TypeId} (w : World) (p : Nat) (sv : Value) (vs : Array Value) (texts : List ByteArray) (hp : p < w.heap.size) (ho : sv.ownBlock ≠ some w.heap.size) (hl : texts.length ≤ 100) (hc : ∀ j, j < texts.length → vs[j]? = some (.string (texts.getD j ByteArray.empty))) :
  TxtAt (w.alloc (.cells vs T)) p sv (.slice (some ⟨w.heap.size, 0, none⟩) texts.length texts.length) texts :=
 ⟨_, _, rfl, hl, Or.inr ⟨w.heap.size, 0, rfl, by simp, by omega, ho, fun j hj => by
  rw [Nat.zero_add]
  unfold World.cell?
  rw [Ab w _]
  exact hc j hj⟩⟩
theorem Le (p : Nat) : ES p 189 Dy := ⟨fun args w => Tryz.call189 args w, fun d sv s s' w _ _ hP hs => JY d p sv s s' w hP hs⟩
set_option maxHeartbeats 1000000 in
set_option maxRecDepth 100000 in
theorem LQ (p : Nat) : ES p 188 Jf := by
 refine ⟨fun args w => Tryz.call188 args w, fun d sv s s' w hd0 hd1 hP hs => ?_⟩
 have H := Lib.hid (GK 5 ⟨#[45]⟩ 9 189 Dy p (by decide) (Le p) 3 d sv s s' w hd0 hd1 hP hs)
 clear hP hs
 go_enter Tryz.func188, Tryz.ntmps188
 go_wp2_with (go_at_call 181; refine (H.out).mono ?_; rintro e wz ⟨rfl, sz, hpz, hfz⟩; have HPZ := Lib.hid hpz; have HFZ := Lib.hid hfz; clear hpz hfz)
 go_end0
 exact ⟨rfl, sz, HPZ.out, HFZ.out⟩
set_option maxHeartbeats 1000000 in
set_option maxRecDepth 100000 in
theorem Lh (p : Nat) : ES p 187 Hz := by
 refine ⟨fun args w => Tryz.call187 args w, fun d sv s s' w hd0 hd1 hP hs => ?_⟩
 have hb0 := Ad (w := w) (.cells #[.string ⟨#[42]⟩] 9)
 have HF0 := Lib.hid (Fr.of_below (sv := sv) hb0 hP.lt)
 have hT := I9 (T := 9) w p sv #[.string ⟨#[42]⟩] [⟨#[42]⟩] hP.lt hP.own_ne (by decide) (fun j hj => by
  match j, hj with
  | 0, _ => rfl)
 have H := Lib.hid (EN 5 [⟨#[42]⟩] 188 Jf p (LQ p) 4 d _ sv s s' _ hd0 hd1 (hP.keep hb0) hT hs)
 have hl := hP.lt
 clear hP hs hb0 hT
 go_enter Tryz.func187, Tryz.ntmps187
 go_wp2_with (go_at_call 146; refine (H.out).mono ?_; rintro e wz ⟨rfl, sz, hpz, hfz⟩; have HPZ := Lib.hid hpz; have HFZ := Lib.hid hfz; clear hpz hfz)
 go_end0
 exact ⟨rfl, sz, HPZ.out, HF0.out.trans HFZ.out⟩
set_option maxHeartbeats 1000000 in
set_option maxRecDepth 100000 in
theorem Lp (p : Nat) : ES p 186 Lo := by
 refine ⟨fun args w => Tryz.call186 args w, fun d sv s s' w hd0 hd1 hP hs => ?_⟩
 have hb0 := Ad (w := w) (.cells #[.string ⟨#[43]⟩, .string ⟨#[45]⟩] 9)
 have HF0 := Lib.hid (Fr.of_below (sv := sv) hb0 hP.lt)
 have hT := I9 (T := 9) w p sv #[.string ⟨#[43]⟩, .string ⟨#[45]⟩] [⟨#[43]⟩, ⟨#[45]⟩] hP.lt hP.own_ne (by decide) (fun j hj => by
  match j, hj with
  | 0, _ => rfl
  | 1, _ => rfl)
 have H := Lib.hid (EN 5 [⟨#[43]⟩, ⟨#[45]⟩] 187 Hz p (Lh p) 4 d _ sv s s' _ hd0 hd1 (hP.keep hb0) hT hs)
 have hl := hP.lt
 clear hP hs hb0 hT
 go_enter Tryz.func186, Tryz.ntmps186
 go_wp2_with (go_at_call 146; refine (H.out).mono ?_; rintro e wz ⟨rfl, sz, hpz, hfz⟩; have HPZ := Lib.hid hpz; have HFZ := Lib.hid hfz; clear hpz hfz)
 go_end0
 exact ⟨rfl, sz, HPZ.out, HF0.out.trans HFZ.out⟩
/- parse.parser.compared, without IS. -/
theorem OI {k : Int} {texts : List ByteArray} {s : PSt} (h : BW k texts s = none) : A6 k texts s.1 = false := by
 cases hn : A6 k texts s.1 with
 | false => rfl
 | true =>
   unfold BW at h
   rw [hn, if_pos rfl] at h
   cases hsx : s.1 with
   | nil => rw [hsx] at hn; simp [A6] at hn
   | cons a b => rw [hsx] at h; cases h
theorem DJ {k : Int} {texts : List ByteArray} {ts : List TK} {st : List ST} {t : TK} {s2 : PSt} (h : BW k texts (ts, st) = some (t, s2)) : ∃ r, ts = t :: r ∧ s2 = (r, st) ∧ A6 k texts (t :: r) = true := by
 unfold BW at h
 simp only at h
 split at h
 · rename_i hn
   cases ts with
   | nil => cases h
   | cons t0 r =>
     simp only [Option.some.injEq, Prod.mk.injEq] at h
     obtain ⟨rfl, rfl⟩ := h
     exact ⟨r, rfl, rfl, hn⟩
 · cases h
abbrev Kc : Obj := .cells #[.string ⟨#[61]⟩, .string ⟨#[60, 62]⟩, .string ⟨#[60]⟩, .string ⟨#[60, 61]⟩, .string ⟨#[62]⟩, .string ⟨#[62, 61]⟩] 9
theorem K2 (w : World) : TxtRow (w.alloc Kc) (.slice (some ⟨w.heap.size, 0, none⟩) 6 6) K1 :=
 ⟨_, _, rfl, by decide, Or.inr ⟨w.heap.size, 0, rfl, by simp, fun j hj => by
  rw [Nat.zero_add]
  unfold World.cell?
  rw [Ab w _]
  have hj2 : j < 6 := hj
  obtain rfl | rfl | rfl | rfl | rfl | rfl : j = 0 ∨ j = 1 ∨ j = 2 ∨ j = 3 ∨ j = 4 ∨ j = 5 := by omega
  all_goals rfl⟩⟩
set_option maxHeartbeats 4000000 in
set_option maxRecDepth 100000 in
theorem JU (p : Nat) : ES p 182 ED := by
 refine ⟨fun args w => Tryz.call182 args w, fun d sv s s' w hd0 hd1 hP hs => ?_⟩
 unfold ED at hs
 cases h1 : Lo d s with
 | none => rw [h1] at hs; cases hs
 | some s1 =>
   rw [h1] at hs
   simp only at hs
   have H1 := Lib.hid ((Lp p).2 d sv s s1 w hd0 hd1 hP h1)
   have hl := hP.lt
   cases ht : BW 5 K1 s1 with
   | none =>
     rw [ht] at hs
     simp only at hs
     split at hs
     · cases hs
     · rename_i hi
       cases hs
       have HTK := Lib.hid (fun (w' : World) (v' : Value) (h : PS w' p v' s') => GF 5 K1 _ p v' s' _ (h.keep (Ad Kc)) (K2 w') (OI ht))
       have HKY := Lib.hid (fun (w' : World) (v' : Value) (h : PS w' p v' s') => It ⟨#[73, 83]⟩ p v' s' w' h (by simpa using hi))
       clear hP h1 ht hi
       go_enter Tryz.func182, Tryz.ntmps182
       go_upto_region 5 with (first | (go_at_call 186; refine (H1.out).mono ?_; rintro e w7 ⟨rfl, sv7, hp7, hf7⟩; have HP7 := Lib.hid hp7; have HF7 := Lib.hid hf7; have l7 := hp7.lt; clear hp7 hf7) | (go_at_call 117; refine (HTK.out _ _ HP7.out).mono ?_; rintro e w8 ⟨rfl, hb8⟩; have HB8 := Lib.hid (Aa (Ad _) (Ad _).size hb8); clear hb8))
       have HB9 := Lib.hid (Aa HB8.out HB8.out.size (Ad (.cells #[.int .u8 0, .string ⟨#[]⟩, .int .i64 0, .int .i64 0] 158)))
       have HK9 := Lib.hid (HKY.out _ _ (HP7.out.keep HB9.out))
       go_wp2_with (go_at_call 86; refine (HK9.out).mono ?_; rintro e wz ⟨rfl, hbz⟩; have HBZ := Lib.hid (Aa HB9.out HB9.out.size hbz); clear hbz)
       go_end0
       exact ⟨rfl, sv7, HP7.out.keep HBZ.out, HF7.out.trans (Fr.of_below HBZ.out HP7.out.lt)⟩
   | some v =>
     obtain ⟨t, s2⟩ := v
     rw [ht] at hs
     simp only at hs
     split at hs
     · rename_i hi0
       cases h3 : Lo d s2 with
       | none => rw [h3] at hs; cases hs
       | some s3 =>
         rw [h3] at hs
         simp only at hs
         obtain ⟨ts, st⟩ := s1
         obtain ⟨r, rfl, rfl, hn⟩ := DJ ht
         have HTK := Lib.hid (fun (w' : World) (v' : Value) (h : PS w' p v' (t :: r, st)) => D3 5 K1 _ p v' t r st _ (h.keep (Ad Kc)) (K2 w') hn)
         have HONE := Lib.hid (fun (w' : World) (v' : Value) (h : PS w' p v' (r, st)) => (Lp p).2 d v' (r, st) s3 w' hd0 hd1 h h3)
         have hlt := Mj (t := t.t)
         have HIX := Lib.hid (fun (w' : World) (g : Nat) hc => GQ g t.t w' hc)
         have HPUT := Lib.hid (fun (w' : World) (v' : Value) (h : PS w' p v' s3) => Dd (Eq t.t) p v' s3 s' w' h hs)
         unfold Eq at HPUT
         simp only at HPUT
         generalize Lib.idxOfS ops t.t = z at *
         have hz1 : IntKind.u8.wrap z = z := by simp [IntKind.wrap, IntKind.bits, IntKind.signed]; omega
         have hz2 : IntKind.u8.wrap (12 + z) = 12 + z := by simp [IntKind.wrap, IntKind.bits, IntKind.signed]; omega
         clear hn h3 hs hP h1 ht
         go_enter Tryz.func182, Tryz.ntmps182
         go_upto_region 3 with (first | (go_at_call 186; refine (H1.out).mono ?_; rintro e w6 ⟨rfl, sv6, hp6, hf6⟩; have HP6 := Lib.hid hp6; have HF6 := Lib.hid hf6; have l6 := hp6.lt; clear hp6 hf6) | (go_at_call 117; refine (HTK.out _ _ HP6.out).mono ?_; rintro e w7 ⟨rfl, hp7, hf7⟩; have HP7 := Lib.hid hp7; have HF7 := Lib.hid ((Fr.of_below (sv := sv6) (Ad (w := w6) Kc) HP6.out.lt).trans hf7); clear hp7 hf7))
         clear H1
         go_upto_region 4 with (go_at_call 186; refine (HONE.out _ _ ((HP7.out).keep (Ad _))).mono ?_; rintro e w8 ⟨rfl, sv8, hp8, hf8⟩; have HP8 := Lib.hid hp8; have HF8 := Lib.hid hf8; clear hp8 hf8)
         have lp7 := HP7.out.lt
         have hne7 : sv6.ownBlock ≠ some w7.heap.size := HP7.out.own_ne
         have hk8 := (HF8.out.keep w7.heap.size (by simp) (by omega) hne7).trans (Ab w7 (.cells #[.int .u8 t.k, .string t.t, .int .i64 t.n, .int .i64 t.a] 158))
         have hne8 : sv8.ownBlock ≠ some w7.heap.size := fun e => by
          rcases HF8.out.own _ e with h | h
          · exact hne7 h
          · simp at h; omega
         have HSD : Hid (w8.drew.cell? ⟨w7.heap.size, 1, none⟩ = some (.string t.t)) := Lib.hid (AH hk8).2.1
         have HPD : Hid (PS w8.drew p sv8 s3 ∧ Fr p sv8 w8 sv8 w8.drew) := Lib.hid (HP8.out.frame (Below.refl _ _).drew)
         have hs8 := HF8.out.size
         have l78 : w7.heap.size < w8.heap.size := by simp at hs8; omega
         have HSIM : Hid (∀ w' : World, Below w8.drew.heap.size w8.drew w' → w'.cell? ⟨w7.heap.size, 1, none⟩ = some (.string t.t)) := Lib.hid (fun w' hb => Ac hb HSD.out)
         have HFRM : Hid (∀ (w' wz : World) (sz : Value), Below w8.drew.heap.size w8.drew w' → Fr p sv8 w' sz wz → wz.cell? ⟨w7.heap.size, 1, none⟩ = some (.string t.t)) := Lib.hid (fun w' wz sz hb hf => (World.cell?_of_block (a := ⟨w7.heap.size, 1, none⟩) (hf.keep w7.heap.size (Nat.lt_of_lt_of_le l78 hb.size) (by omega) hne8)).trans (Ac hb HSD.out))
         clear hk8 hs8 hne7 hne8
         go_region_held3 (fun w' => w'.cell? ⟨w7.heap.size, 1, none⟩ = some (.string t.t))
          (first | (with_reducible exact HSD.out) | (with_reducible exact HS9.out) | (with_reducible exact HSZ.out))
          (first | (go_at_call 171; refine (EM _).mono ?_; rintro e w9 ⟨g, rfl, hc9, hb9⟩; have HB9 := Lib.hid hb9; have HS9 : Hid (w9.cell? ⟨w7.heap.size, 1, none⟩ = some (.string t.t)) := Lib.hid (HSIM.out _ hb9); have HC9 := Lib.hid hc9; clear hc9 hb9) | (go_at_call 170; refine (HIX.out _ _ HC9.out).mono ?_; rintro e w10 ⟨rfl, rfl⟩) | (go_at_call 169; refine (HPUT.out _ _ (HPD.out.1.keep HB9.out)).mono ?_; rintro e wz ⟨rfl, sz, hpz, hfz⟩; have HSZ : Hid (wz.cell? ⟨w7.heap.size, 1, none⟩ = some (.string t.t)) := Lib.hid (HFRM.out _ _ _ HB9.out hfz); have HPZ := Lib.hid hpz; have HFZ := Lib.hid hfz; clear hpz hfz))
         all_goals
          go_wp2_with fail
          go_end0
          exact ⟨rfl, sz, HPZ.out, ((((HF6.out.trans HF7.out).trans (Fr.of_below (Ad _) lp7)).trans HF8.out).trans (HPD.out.2.trans (Fr.of_below HB9.out HPD.out.1.lt))).trans HFZ.out⟩
     · cases hs
/- parse.parser.not, and, or. -/
set_option maxHeartbeats 1000000 in
set_option maxRecDepth 100000 in
theorem PI (p : Nat) : ES p 172 PH := by
 refine ⟨fun args w => Tryz.call172 args w, fun d sv s s' w hd0 hd1 hP hs => ?_⟩
 have H := Lib.hid (GK 2 ⟨#[78, 79, 84]⟩ 10 182 ED p (by decide) (JU p) 3 d sv s s' w hd0 hd1 hP hs)
 clear hP hs
 go_enter Tryz.func172, Tryz.ntmps172
 go_wp2_with (go_at_call 181; refine (H.out).mono ?_; rintro e wz ⟨rfl, sz, hpz, hfz⟩; have HPZ := Lib.hid hpz; have HFZ := Lib.hid hfz; clear hpz hfz)
 go_end0
 exact ⟨rfl, sz, HPZ.out, HFZ.out⟩
set_option maxHeartbeats 1000000 in
set_option maxRecDepth 100000 in
theorem Pd (p : Nat) : ES p 147 Pc := by
 refine ⟨fun args w => Tryz.call147 args w, fun d sv s s' w hd0 hd1 hP hs => ?_⟩
 have hb0 := Ad (w := w) (.cells #[.string ⟨#[65, 78, 68]⟩] 9)
 have HF0 := Lib.hid (Fr.of_below (sv := sv) hb0 hP.lt)
 have hT := I9 (T := 9) w p sv #[.string ⟨#[65, 78, 68]⟩] [⟨#[65, 78, 68]⟩] hP.lt hP.own_ne (by decide) (fun j hj => by
  match j, hj with
  | 0, _ => rfl)
 have H := Lib.hid (EN 2 [⟨#[65, 78, 68]⟩] 172 PH p (PI p) 4 d _ sv s s' _ hd0 hd1 (hP.keep hb0) hT hs)
 have hl := hP.lt
 clear hP hs hb0 hT
 go_enter Tryz.func147, Tryz.ntmps147
 go_wp2_with (go_at_call 146; refine (H.out).mono ?_; rintro e wz ⟨rfl, sz, hpz, hfz⟩; have HPZ := Lib.hid hpz; have HFZ := Lib.hid hfz; clear hpz hfz)
 go_end0
 exact ⟨rfl, sz, HPZ.out, HF0.out.trans HFZ.out⟩
set_option maxHeartbeats 1000000 in
set_option maxRecDepth 100000 in
theorem R0 (p : Nat) : ES p 119 orP := by
 refine ⟨fun args w => Tryz.call119 args w, fun d sv s s' w hd0 hd1 hP hs => ?_⟩
 have hb0 := Ad (w := w) (.cells #[.string ⟨#[79, 82]⟩] 9)
 have HF0 := Lib.hid (Fr.of_below (sv := sv) hb0 hP.lt)
 have hT := I9 (T := 9) w p sv #[.string ⟨#[79, 82]⟩] [⟨#[79, 82]⟩] hP.lt hP.own_ne (by decide) (fun j hj => by
  match j, hj with
  | 0, _ => rfl)
 have H := Lib.hid (EN 2 [⟨#[79, 82]⟩] 147 Pc p (Pd p) 4 d _ sv s s' _ hd0 hd1 (hP.keep hb0) hT hs)
 have hl := hP.lt
 clear hP hs hb0 hT
 go_enter Tryz.func119, Tryz.ntmps119
 go_wp2_with (go_at_call 146; refine (H.out).mono ?_; rintro e wz ⟨rfl, sz, hpz, hfz⟩; have HPZ := Lib.hid hpz; have HFZ := Lib.hid hfz; clear hpz hfz)
 go_end0
 exact ⟨rfl, sz, HPZ.out, HF0.out.trans HFZ.out⟩
/- parse.parser.expr, where, stmt (of a DELETE with a condition). -/
def Ji (p : Nat) (sv : Value) (w : World) (s : PSt) (e : Ending) (w' : World) : Prop := ∃ sv', e = .returned sv' ∧ PS w' p sv' s ∧ Fr p sv w sv' w'
theorem PS.clear {w : World} {p : Nat} {sv : Value} {s : PSt} (h : PS w p sv s) : PS (w.setCell ⟨p, 4, none⟩ (.slice none 0 0)) p (.slice none 0 0) (s.1, []) ∧ Fr p sv w (.slice none 0 0) (w.setCell ⟨p, 4, none⟩ (.slice none 0 0)) := by
 have hl := h.lt
 have hf := KB (o := 4) (sv := sv) (v := .slice none 0 0) hl (Below.refl _ w)
 obtain ⟨left, E, a, hB, hT, hO⟩ := h
 refine ⟨⟨left, E, a, heap_setCell_same _ _ 4 _ _ _ hB, hT.below hf.below, World.ownsRow_nil _ _ _ _⟩, hf.below, hf.size, hf.keep, fun b e => by cases e⟩
theorem PS.sets {w : World} {p g o : Nat} {sv : Value} {s : PSt} {us : List Value} (h : PS w p sv s) (hg : p < g) (ho : sv.ownBlock ≠ some g) : PS (w.setCells g o us) p sv s := by
 obtain ⟨left, E, a, hB, hT, hO⟩ := h
 exact ⟨left, E, a, B7 (by omega) _ _ _ hB, hT.below (Ag (Nat.le_of_lt hg) _ _ _ (Below.refl _ _)), Cz ho _ _ _ hO⟩
set_option maxHeartbeats 1000000 in
set_option maxRecDepth 100000 in
theorem LL (p : Nat) (sv : Value) (s s' : PSt) (w : World) (hP : PS w p sv s) (hs : orP 0 (s.1, []) = some s') :
  Calls Tryz.prog 90 #[.pointer (some ⟨p, 0, none⟩)] w (Ji p sv w s') := by
 obtain ⟨h0, hf0⟩ := hP.clear
 have HF0 := Lib.hid hf0
 have H := Lib.hid ((R0 p).2 0 _ _ s' _ (by decide) (by decide) h0 hs)
 obtain ⟨left, E, a, hB, _, _⟩ := hP
 obtain ⟨b0, b1, b2, b3, b4, b5⟩ := CC hB
 clear h0 hf0 hs hB
 go_enter Tryz.func90, Tryz.ntmps90
 go_upto_region 3 with (go_at_call 119; refine (H.out).mono ?_; rintro e wz ⟨rfl, sz, hpz, hfz⟩; have HPZ := Lib.hid hpz; have HFZ := Lib.hid hfz; clear hpz hfz)
 clear b0 b1 b2 b3 b4 b5
 have hpz := HPZ.out
 obtain ⟨A, c, rfl, _, _⟩ := Bt (by obtain ⟨_, _, _, _, _, h⟩ := hpz; exact h)
 obtain ⟨left', E', a', hB', _, _⟩ := hpz
 obtain ⟨b0, b1, b2, b3, b4, b5⟩ := CC hB'
 clear hB'
 go_wp2_with fail
 go_ret
 exact ⟨_, rfl, HPZ.out, HF0.out.trans HFZ.out⟩
set_option maxHeartbeats 1000000 in
set_option maxRecDepth 100000 in
theorem LZ (p : Nat) (sv : Value) (t : TK) (r : List TK) (st : List ST) (s' : PSt) (w : World) (hP : PS w p sv (t :: r, st)) (hn : A6 2 [Ee] (t :: r) = true) (hs : orP 0 (r, []) = some s') :
  Calls Tryz.prog 92 #[.pointer (some ⟨p, 0, none⟩)] w (Ji p sv w s') := by
 have H1 := Lib.hid (Mn Ee p sv t r st w hP hn)
 have H2 := Lib.hid (fun (w' : World) (h : PS w' p sv (r, st)) => LL p sv (r, st) s' w' h hs)
 unfold Ee at H1
 have hl := hP.lt
 clear hP hn hs
 go_enter Tryz.func92, Tryz.ntmps92
 go_wp2_with (first | (go_at_call 86; refine (H1.out).mono ?_; rintro e w7 ⟨rfl, hp7, hf7⟩; have HP7 := Lib.hid hp7; have HF7 := Lib.hid hf7; clear hp7 hf7) | (go_at_call 90; refine (H2.out _ HP7.out).mono ?_; rintro e wz ⟨sz, rfl, hpz, hfz⟩; have HPZ := Lib.hid hpz; have HFZ := Lib.hid hfz; clear hpz hfz))
 go_ret
 exact ⟨_, rfl, HPZ.out, HF7.out.trans HFZ.out⟩
abbrev I6 (k : Int) (t : ByteArray) (sv : Value) : Value := .agg #[.int .u8 k, .string t, .string ⟨#[]⟩, .slice none 0 0, sv, .bool false, .bool false]
abbrev BG (k : Int) (t : ByteArray) (sv : Value) : Obj := .cells #[.int .u8 k, .string t, .string ⟨#[]⟩, .slice none 0 0, sv, .bool false, .bool false] 95
theorem BN {w : World} {b : Nat} {a0 a1 a2 a3 a4 a5 a6 : Value} {T : TypeId} (h : w.heap[b]? = some (.cells #[a0, a1, a2, a3, a4, a5, a6] T (0, 0))) :
  w.cell? ⟨b, 0, none⟩ = some a0 ∧ w.cell? ⟨b, 1, none⟩ = some a1 ∧ w.cell? ⟨b, 2, none⟩ = some a2 ∧ w.cell? ⟨b, 3, none⟩ = some a3 ∧ w.cell? ⟨b, 4, none⟩ = some a4 ∧ w.cell? ⟨b, 5, none⟩ = some a5 ∧ w.cell? ⟨b, 6, none⟩ = some a6 ∧ (∀ o, w.frozen? ⟨b, o, none⟩ = false) := by
 simp [World.cell?, World.frozen?, h]
theorem NY {k : Int} {x : ByteArray} {t : TK} {r : List TK} (h : A6 k [x] (t :: r) = true) : t.t = x := by
 unfold A6 at h
 simp only [Bool.and_eq_true, List.isEmpty_cons, Bool.false_or] at h
 have := (Lib.containsS_iff _ _).1 h.2
 simpa using this
theorem Hx {k : Int} {x y : ByteArray} {t : TK} {r : List TK} (h : A6 k [x] (t :: r) = true) (hy : Lib.containsS [y] x = false) : A6 k [y] (t :: r) = false := by
 have e := NY h
 show (t.k == k && ([y].isEmpty || Lib.containsS [y] t.t)) = false
 rw [e, hy]
 simp
theorem Gf {p g : Nat} {sv sv' : Value} {w w' : World} {o : Obj} (hf : Fr p sv w sv' w') (hg : w.heap[g]? = some o) (hp : g ≠ p) (ho : sv.ownBlock ≠ some g) : w'.heap[g]? = some o ∧ sv'.ownBlock ≠ some g := by
 have hlt : g < w.heap.size := lt_of_block hg
 refine ⟨(hf.keep g hlt hp ho).trans hg, fun e => ?_⟩
 rcases hf.own g e with h | h
 · exact ho h
 · omega
set_option maxHeartbeats 4000000 in
set_option maxRecDepth 100000 in
theorem Nq (p : Nat) (sv : Value) (t1 t2 t3 t4 : TK) (ts : List TK) (st : List ST) (s' : PSt) (w : World) (hP : PS w p sv (t1 :: t2 :: t3 :: t4 :: ts, st)) (h1 : A6 2 [Eo] (t1 :: t2 :: t3 :: t4 :: ts) = true) (h2 : A6 2 [Fh] (t2 :: t3 :: t4 :: ts) = true)
  (h3 : A6 1 [] (t3 :: t4 :: ts) = true) (h4 : A6 2 [Ee] (t4 :: ts) = true) (hs : orP 0 (ts, []) = some s') :
  Calls Tryz.prog 64 #[.pointer (some ⟨p, 0, none⟩)] w fun e w' => ∃ sv', e = .returned (I6 5 t3.t sv') ∧ PS w' p sv' s' ∧ Fr p sv w sv' w' := by
 have hb0 := Ad (w := w) (BG 0 ⟨#[]⟩ (.slice none 0 0))
 have HF0 := Lib.hid (Fr.of_below (sv := sv) hb0 hP.lt)
 have HP0 := Lib.hid (hP.keep hb0)
 have HX0 := Lib.hid (Ab w (BG 0 ⟨#[]⟩ (.slice none 0 0)))
 have hne := hP.own_ne
 have hl := hP.lt
 have n1 := Hx (y := ⟨#[67, 82, 69, 65, 84, 69]⟩) h1 (by decide)
 have n2 := Hx (y := ⟨#[73, 78, 83, 69, 82, 84]⟩) h1 (by decide)
 have n3 := Hx (y := ⟨#[85, 80, 68, 65, 84, 69]⟩) h1 (by decide)
 have HK1 := Lib.hid (fun (w' : World) (h : PS w' p sv (t1 :: t2 :: t3 :: t4 :: ts, st)) => It ⟨#[67, 82, 69, 65, 84, 69]⟩ p sv _ w' h n1)
 have HK2 := Lib.hid (fun (w' : World) (h : PS w' p sv (t1 :: t2 :: t3 :: t4 :: ts, st)) => It ⟨#[73, 78, 83, 69, 82, 84]⟩ p sv _ w' h n2)
 have HK3 := Lib.hid (fun (w' : World) (h : PS w' p sv (t1 :: t2 :: t3 :: t4 :: ts, st)) => It ⟨#[85, 80, 68, 65, 84, 69]⟩ p sv _ w' h n3)
 have HK4 := Lib.hid (fun (w' : World) (h : PS w' p sv (t1 :: t2 :: t3 :: t4 :: ts, st)) => Mn Eo p sv _ _ _ w' h h1)
 have HK5 := Lib.hid (fun (w' : World) (v' : Value) (tb : Nat) (h : PS w' p v' (t2 :: t3 :: t4 :: ts, st)) (hx : w'.cell? ⟨tb, 0, none⟩ = some (.string Fh)) => P4 Fh tb p v' _ _ _ w' h hx h2)
 have HK6 := Lib.hid (fun (w' : World) (v' : Value) (h : PS w' p v' (t3 :: t4 :: ts, st)) => Jx p v' _ _ _ w' h h3)
 have HK7 := Lib.hid (fun (w' : World) (v' : Value) (h : PS w' p v' (t4 :: ts, st)) => LZ p v' _ _ _ s' w' h h4 hs)
 unfold Eo at HK4
 unfold Fh at HK5
 obtain ⟨tt, htt⟩ : ∃ x, t3.t = x := ⟨_, rfl⟩
 rw [htt] at HK6 ⊢
 clear hP h1 h2 h3 h4 hs n1 n2 n3 hb0 htt
 go_enter Tryz.func64, Tryz.ntmps64
 go_upto_region 20 with (first | (go_at_call 86; ((with_reducible refine (HK1.out _ HP0.out).mono ?_); rintro e w1 ⟨rfl, hb1⟩; have HP1 := Lib.hid (HP0.out.keep hb1); have HF1 := Lib.hid (HF0.out.trans (Fr.of_below hb1 HP0.out.lt)); have HX1 := Lib.hid (blk hb1 HX0.out); clear hb1)) | (go_at_call 86; ((with_reducible refine (HK2.out _ HP1.out).mono ?_); rintro e w2 ⟨rfl, hb2⟩; have HP2 := Lib.hid (HP1.out.keep hb2); have HF2 := Lib.hid (HF1.out.trans (Fr.of_below hb2 HP1.out.lt)); have HX2 := Lib.hid (blk hb2 HX1.out); clear hb2)) | (go_at_call 86; ((with_reducible refine (HK3.out _ HP2.out).mono ?_); rintro e w3 ⟨rfl, hb3⟩; have HP3 := Lib.hid (HP2.out.keep hb3); have HF3 := Lib.hid (HF2.out.trans (Fr.of_below hb3 HP2.out.lt)); have HX3 := Lib.hid (blk hb3 HX2.out); clear hb3)) | (go_at_call 86; ((with_reducible refine (HK4.out _ HP3.out).mono ?_); rintro e w4 ⟨rfl, hp4, hf4⟩; have HX4 := Lib.hid (Gf hf4 HX3.out (by omega) hne).1; have HP4 := Lib.hid hp4; have HF4 := Lib.hid (HF3.out.trans hf4); have lw4 := hp4.lt; clear hp4 hf4)))
 have hb5 := Ad (w := w4) (.cells #[.string ⟨#[70, 82, 79, 77]⟩] 9)
 have HP5 := Lib.hid (HP4.out.keep hb5)
 have HF5 := Lib.hid (HF4.out.trans (Fr.of_below hb5 lw4))
 have HX5 := Lib.hid (blk hb5 HX4.out)
 have HC5 := Lib.hid (D8 (Ab w4 (.cells #[.string ⟨#[70, 82, 79, 77]⟩] 9))).1
 clear hb5 HP0 HP1 HP2 HP3 HF0 HF1 HF2 HF3 HX0 HX1 HX2 HX3 HK1 HK2 HK3 HK4
 go_upto_region 21 with (go_at_call 88; refine (HK5.out _ _ _ HP5.out HC5.out).mono ?_; rintro e w6 ⟨rfl, sv6, hp6, hf6⟩; have hx6 := Gf hf6 HX5.out (by omega) hne; have HX6 := Lib.hid hx6.1; have HN6 := Lib.hid hx6.2; have HP6 := Lib.hid hp6; have HF6 := Lib.hid (HF5.out.trans hf6); clear hx6 hp6 hf6)
 clear HK5 HP5 HF5 HX5 HC5 HP4 HF4 HX4
 go_upto_region 22 with (go_at_call 87; refine (HK6.out _ _ HP6.out).mono ?_; rintro e w7 ⟨rfl, hp7, hf7⟩; have hx7 := Gf hf7 HX6.out (by omega) HN6.out; obtain ⟨z0, z1, z2, z3, z4, z5, z6, z7⟩ := BN hx7.1; have HX7 := Lib.hid hx7.1; have HP7 := Lib.hid hp7; have HF7 := Lib.hid (HF6.out.trans hf7); clear hx7 hp7 hf7)
 have hx8 : (w7.setCells w.heap.size 0 [.int .u8 5, .string tt]).heap[w.heap.size]? = some (BG 5 tt (.slice none 0 0)) := heap_setCell_same _ _ 1 _ _ _ (heap_setCell_same _ _ 0 _ _ _ HX7.out)
 have hp8 := HP7.out.sets (o := 0) (us := [.int .u8 5, .string tt]) hl HN6.out
 have hf8 := GA (o := 0) (us := [.int .u8 5, .string tt]) HF7.out hl (Nat.le_refl _)
 change ((w7.setCell ⟨w.heap.size, 0, none⟩ (.int .u8 5)).setCell ⟨w.heap.size, 1, none⟩ (.string tt)).heap[w.heap.size]? = _ at hx8
 change PS ((w7.setCell ⟨w.heap.size, 0, none⟩ (.int .u8 5)).setCell ⟨w.heap.size, 1, none⟩ (.string tt)) p sv6 _ at hp8
 change Fr p sv w sv6 ((w7.setCell ⟨w.heap.size, 0, none⟩ (.int .u8 5)).setCell ⟨w.heap.size, 1, none⟩ (.string tt)) at hf8
 generalize (w7.setCell ⟨w.heap.size, 0, none⟩ (.int .u8 5)).setCell ⟨w.heap.size, 1, none⟩ (.string tt) = w8 at *
 have HX8 := Lib.hid hx8
 have HP8 := Lib.hid hp8
 have HF8 := Lib.hid hf8
 clear hx8 hp8 hf8 z0 z1 z2 z3 z4 z5 z6 z7
 go_wp2_with (go_at_call 92; refine (HK7.out _ _ HP8.out).mono ?_; rintro e w9 ⟨sv9, rfl, hp9, hf9⟩; obtain ⟨A9, c9, rfl, _, _⟩ := Bt (by obtain ⟨_, _, _, _, _, h⟩ := hp9; exact h); have hx9 := Gf hf9 HX8.out (by omega) HN6.out; obtain ⟨z0, z1, z2, z3, z4, z5, z6, z7⟩ := BN hx9.1; have HN9 := Lib.hid hx9.2; have HP9 := Lib.hid hp9; have HF9 := Lib.hid (HF8.out.trans hf9); clear hx9 hp9 hf9)
 refine bodyPost_ret (v := I6 5 tt (.slice A9 s'.2.length c9)) (by simp [results, Tryz.results64, go_sem, Ai, z0, z1, z2, z3, z4, z5, z6]) rfl ?_
 have h1 := (HP9.out.sets (o := 4) (us := [.slice A9 s'.2.length c9]) hl HN9.out).sets (o := 0) (us := [.int .u8 5, .string tt, .string ⟨#[]⟩, .slice none 0 0, .slice A9 s'.2.length c9, .bool false, .bool false]) hl HN9.out
 have h2 := GA (o := 0) (us := [.int .u8 5, .string tt, .string ⟨#[]⟩, .slice none 0 0, .slice A9 s'.2.length c9, .bool false, .bool false]) (GA (o := 4) (us := [.slice A9 s'.2.length c9]) HF9.out hl (Nat.le_refl _)) hl (Nat.le_refl _)
 exact ⟨_, rfl, h1, h2⟩
/- parse.Check, of a DELETE that is right. -/
set_option maxHeartbeats 4000000 in
set_option maxRecDepth 100000 in
theorem NC (t : ByteArray) (A : Option Addr) (n c : Nat) (w : World) (hn : ∀ w', Below w.heap.size w w' → Calls Tryz.prog 58 #[.string t] w' fun e w2 => e = .returned (.bool true) ∧ Below w'.heap.size w' w2)
  (hr : ∀ w', Below w.heap.size w w' → Calls Tryz.prog 23 #[.slice A n c] w' fun e w2 => e = .returned (.bool true) ∧ Below w'.heap.size w' w2) (h0 : 0 < n) (hlim : n ≤ 1000) :
  Calls Tryz.prog 67 #[I6 5 t (.slice A n c)] w fun e w' => e = .returned (.int .i64 0) ∧ Below w.heap.size w w' := by
 have HN := Lib.hid hn
 have HR := Lib.hid hr
 have q0 : ((n : Int) == 0) = false := by simp; omega
 clear hn hr
 go_enter Tryz.func67, Tryz.ntmps67
 go_upto_region 2 with (fail)
 have hX := Af (o := BG 5 t (.slice none 0 0)) (Ab w (BG 5 t (.slice A n c)))
 have hY := Ab (w.alloc (BG 5 t (.slice A n c))) (BG 5 t (.slice none 0 0))
 have hD := Aj (w := w) (BG 5 t (.slice A n c)) (BG 5 t (.slice none 0 0))
 have esz : (w.alloc (BG 5 t (.slice A n c))).heap.size = w.heap.size + 1 := by simp
 rw [esz] at hY
 generalize (w.alloc (BG 5 t (.slice A n c))).alloc (BG 5 t (.slice none 0 0)) = W at *
 have HD := Lib.hid hD
 have HX := Lib.hid hX
 have HY := Lib.hid hY
 clear hD hX hY esz
 obtain ⟨x0, x1, x2, x3, x4, x5, x6, x7⟩ := BN HX.out
 obtain ⟨y0, y1, y2, y3, y4, y5, y6, y7⟩ := BN HY.out
 have lW : w.heap.size + 1 < W.heap.size := lt_of_block HY.out
 go_upto_region 17 with (first | (go_at_call 58; refine (HN.out _ HD.out).mono ?_; rintro e w2 ⟨rfl, hb2⟩; have hx2 := blk hb2 HX.out; have hy2 := blk hb2 HY.out; have HX2 := Lib.hid hx2; have HY2 := Lib.hid hy2; have HD2 := Lib.hid (Aa HD.out HD.out.size hb2); clear hb2 x0 x1 x2 x3 x4 x5 x6 x7 y0 y1 y2 y3 y4 y5 y6 y7; obtain ⟨x0, x1, x2, x3, x4, x5, x6, x7⟩ := BN hx2; clear hx2 hy2) | (go_at_call 23; refine (HR.out _ HD2.out).mono ?_; rintro e w3 ⟨rfl, hb3⟩; have hx3 := blk hb3 HX2.out; have hy3 := blk hb3 HY2.out; have HX3 := Lib.hid hx3; have HY3 := Lib.hid hy3; have HD3 := Lib.hid (Aa HD2.out HD2.out.size hb3); clear hb3 x0 x1 x2 x3 x4 x5 x6 x7; obtain ⟨x0, x1, x2, x3, x4, x5, x6, x7⟩ := BN hx3; obtain ⟨y0, y1, y2, y3, y4, y5, y6, y7⟩ := BN hy3; clear hx3 hy3))
 clear HX HY HD HX2 HY2 HD2 HN HR
 go_upto_region 18 with (fail)
 have hx4 := B9 (g := w.heap.size + 1) (o := 4) (v := .slice A n c) (by omega) HX3.out
 have hy4 := heap_setCell_same _ _ 4 _ _ (.slice A n c) HY3.out
 have hd4 := HD3.out.setCell (p := ⟨w.heap.size + 1, 4, none⟩) (Nat.le_succ _) (.slice A n c)
 generalize w3.setCell ⟨w.heap.size + 1, 4, none⟩ (.slice A n c) = w4 at *
 have HD4 := Lib.hid hd4
 clear HX3 HY3 HD3 x0 x1 x2 x3 x4 x5 x6 x7 y0 y1 y2 y3 y4 y5 y6 y7 hd4
 obtain ⟨x0, x1, x2, x3, x4, x5, x6, x7⟩ := BN hx4
 obtain ⟨y0, y1, y2, y3, y4, y5, y6, y7⟩ := BN (a4 := .slice A n c) hy4
 clear hx4 hy4
 go_wp2_with fail
 go_ret
 exact ⟨rfl, HD4.out⟩
/- parse.Parse, of a DELETE with a condition; the laws' own of. -/
theorem JN : ∀ (l : List TK) (i : Nat) (h : i < l.length), (BL l)[i * 4]? = some (.int .u8 l[i].k) ∧ (BL l)[i * 4 + 1]? = some (.string l[i].t) ∧ (BL l)[i * 4 + 2]? = some (.int .i64 l[i].n) ∧ (BL l)[i * 4 + 3]? = some (.int .i64 l[i].a)
 | [], i, h => absurd h (Nat.not_lt_zero _)
 | t :: r, 0, h => ⟨rfl, rfl, rfl, rfl⟩
 | t :: r, i + 1, h => by
   have ih := JN r i (by simpa using h)
   have e : ∀ j, (BL (t :: r))[(i + 1) * 4 + j]? = (BL r)[i * 4 + j]? := fun j => by
    show (t.cells ++ BL r)[(i + 1) * 4 + j]? = _
    rw [List.getElem?_append_right (by simp [TK.cells]; omega)]
    congr 1
    simp [TK.cells]; omega
   exact ⟨(e 0).trans ih.1, (e 1).trans ih.2.1, (e 2).trans ih.2.2.1, (e 3).trans ih.2.2.2⟩
theorem Gv : ∀ (l : List ST) (i : Nat) (h : i < l.length), (Bi l)[i * 3]? = some (.int .u8 l[i].k) ∧ (Bi l)[i * 3 + 1]? = some (.string l[i].t) ∧ (Bi l)[i * 3 + 2]? = some (.int .i64 l[i].n)
 | [], i, h => absurd h (Nat.not_lt_zero _)
 | t :: r, 0, h => ⟨rfl, rfl, rfl⟩
 | t :: r, i + 1, h => by
   have ih := Gv r i (by simpa using h)
   have e : ∀ j, (Bi (t :: r))[(i + 1) * 3 + j]? = (Bi r)[i * 3 + j]? := fun j => by
    show ([Value.int .u8 t.k, .string t.t, .int .i64 t.n] ++ Bi r)[(i + 1) * 3 + j]? = _
    rw [List.getElem?_append_right (by simp; omega)]
    congr 1
    simp; omega
   exact ⟨(e 0).trans ih.1, (e 1).trans ih.2.1, (e 2).trans ih.2.2⟩
theorem RO {w : World} {B : Nat} {v : Value} {l : List TK} (h : w.ownsRow B 158 4 v l.length (BL l)) : TokRow w w.heap.size v l := by
 rcases h.2 with ⟨rfl, h0⟩ | ⟨g, cap, cur, rfl, hB, hg, h1, h2, hcs, htk⟩
 · exact ⟨none, 0, by rw [h0], by omega, by unfold maxLen; omega, Or.inl (List.length_eq_zero_iff.1 h0)⟩
 · refine ⟨_, cap, rfl, h1, h2, Or.inr ⟨g, 0, rfl, lt_of_block hg, fun i hi => ?_⟩⟩
   obtain ⟨a0, a1, a2, a3⟩ := JN l i hi
   rw [Nat.zero_add]
   have hc := fun j hj => h.cellAt j hj
   exact ⟨(hc (i * 4) (by omega)).trans a0, (hc (i * 4 + 1) (by omega)).trans a1, (hc (i * 4 + 2) (by omega)).trans a2, (hc (i * 4 + 3) (by omega)).trans a3⟩
theorem Ln {w : World} {B : Nat} {A : Option Addr} {c : Nat} {l : List ST} (h : w.ownsRow B 43 3 (.slice A l.length c) l.length (Bi l)) : RowS w l A := by
 rcases h.2 with ⟨_, h0⟩ | ⟨g, cap, cur, e, hB, hg, h1, h2, hcs, htk⟩
 · exact Or.inl h0
 · cases e
   refine Or.inr ⟨g, 0, rfl, fun i hi => ?_⟩
   obtain ⟨a0, a1, a2⟩ := Gv l i hi
   rw [Nat.zero_add]
   have hc := fun j hj => h.cellAt j hj
   exact ⟨(hc (i * 3) (by omega)).trans a0, (hc (i * 3 + 1) (by omega)).trans a1, (hc (i * 3 + 2) (by omega)).trans a2⟩
theorem RowS.keep {w w' : World} {l : List ST} {a : Option Addr} (h : RowS w l a) (hb : Below w.heap.size w w') : RowS w' l a := by
 rcases h with h | ⟨b, o, e, hc⟩
 · exact Or.inl h
 · refine Or.inr ⟨b, o, e, fun i hi => ?_⟩
   obtain ⟨q0, q1, q2⟩ := hc i hi
   exact ⟨Ac hb q0, Ac hb q1, Ac hb q2⟩
theorem RowS.sets {w : World} {l : List ST} {a : Option Addr} {g k : Nat} {us : List Value} (h : RowS w l a) (hne : ∀ b o, a = some (⟨b, o, none⟩ : Addr) → b ≠ g) : RowS (w.setCells g k us) l a := by
 rcases h with h | ⟨b, o, e, hc⟩
 · exact Or.inl h
 · have f := fun o' => Ar (hne b o e) us k o' w
   exact Or.inr ⟨b, o, e, fun i hi => by obtain ⟨q0, q1, q2⟩ := hc i hi; exact ⟨(f _).trans q0, (f _).trans q1, (f _).trans q2⟩⟩
theorem Il {l : List TK} {t : ByteArray} {st : List ST} (h : K7 l = some (t, st)) : ∃ t1 t2 t3 t4 ts, l = t1 :: t2 :: t3 :: t4 :: ts ∧ A6 2 [Eo] (t1 :: t2 :: t3 :: t4 :: ts) = true ∧ A6 2 [Fh] (t2 :: t3 :: t4 :: ts) = true ∧
   A6 1 [] (t3 :: t4 :: ts) = true ∧ A6 2 [Ee] (t4 :: ts) = true ∧ orP 0 (ts, []) = some ([], st) ∧ t3.t = t ∧ BT t = true ∧ Av st = true ∧ st.length ≠ 0 := by
 unfold K7 at h
 split at h
 · cases h
 rename_i e1
 obtain ⟨l1, rfl, rfl, n1⟩ := DJ e1
 split at h
 · cases h
 rename_i e2
 obtain ⟨l2, rfl, rfl, n2⟩ := DJ e2
 split at h
 · cases h
 rename_i e3
 obtain ⟨l3, rfl, rfl, n3⟩ := DJ e3
 split at h
 · cases h
 rename_i e4
 obtain ⟨l4, rfl, rfl, n4⟩ := DJ e4
 split at h
 · cases h
 rename_i r st' e5
 split at h
 · rename_i hc
   cases h
   simp only [Bool.and_eq_true, List.isEmpty_iff, decide_eq_true_eq] at hc
   obtain ⟨⟨⟨rfl, hn⟩, hr⟩, h0⟩ := hc
   exact ⟨_, _, _, _, l4, rfl, n1, n2, n3, n4, e5, rfl, hn, hr, h0⟩
 · cases h
set_option maxHeartbeats 4000000 in
set_option maxRecDepth 100000 in
theorem On (s : ByteArray) (l : List TK) (t : ByteArray) (st : List ST) (w : World) (hs : s.size ≤ 4096) (hL : Laid w) (hlex : DL s = .ok l) (hdel : K7 l = some (t, st)) (hts : t.size ≤ LIM) (hsz : ∀ x ∈ st, x.t.size ≤ LIM) (hlen : st.length ≤ 128) :
  Calls Tryz.prog 42 #[.string s] w fun e w' => ∃ A c, e = .returned (.tuple #[I6 5 t (.slice A st.length c), .int .i64 0, .int .i64 0]) ∧ RowS w' st A ∧ st.length ≤ c ∧ Below w.heap.size w w' := by
 obtain ⟨t1, t2, t3, t4, ts, rfl, n1, n2, n3, n4, hor, rfl, hname, hright, h0⟩ := Il hdel
 have hb0 := Ad (w := w) (BG 0 ⟨#[]⟩ (.slice none 0 0))
 have HLX0 := G5 s _ (by unfold LIM; omega) (hL.below hb0)
 rw [hlex] at HLX0
 have HLX := Lib.hid HLX0
 have HB0 := Lib.hid hb0
 have HX0 := Lib.hid (Ab w (BG 0 ⟨#[]⟩ (.slice none 0 0)))
 have HL := Lib.hid hL
 have HST := Lib.hid (fun (p : Nat) (w' : World) (h : PS w' p (.slice none 0 0) (t1 :: t2 :: t3 :: t4 :: ts, [])) => Nq p (.slice none 0 0) t1 t2 t3 t4 ts [] ([], st) w' h n1 n2 n3 n4 hor)
 have HNM := Lib.hid (fun (w' : World) (h : Laid w') => F1 t3.t w' hts h)
 rw [hname] at HNM
 have HRT := Lib.hid (fun (A : Option Addr) (c : Nat) (w' : World) (h : Laid w') (hr : RowS w' st A) => EZ st A c w' h (by unfold LIM; omega) hsz hr)
 rw [hright] at HRT
 obtain ⟨tt, htt⟩ : ∃ x, t3.t = x := ⟨_, rfl⟩
 rw [htt] at HST HNM ⊢
 have H0 := Lib.hid h0
 clear hL hlex hdel hsz n1 n2 n3 n4 hor hname hright hb0 HLX0 htt h0 hts
 go_enter Tryz.func42, Tryz.ntmps42
 go_upto_region 4 with (go_at_call 63; refine (HLX.out).mono ?_; rintro e w1 ⟨hb1, v1, rfl, ho1⟩; have HB1 := Lib.hid (Aa HB0.out HB0.out.size hb1); have HX1 := Lib.hid (blk hb1 HX0.out); have HT1 := Lib.hid (RO ho1); obtain ⟨A1, c1, rfl, _, _⟩ := Bt ho1; clear hb1 ho1)
 clear HX0 HB0 HLX
 obtain ⟨m, hm⟩ : ∃ m, (t1 :: t2 :: t3 :: t4 :: ts).length = m := ⟨_, rfl⟩
 go_upto_region 5 with (fail)
 have hq := Ab w1 (.cells #[.slice A1 (ts.length + 1 + 1 + 1 + 1) c1, .int .i64 s.size, .int .i64 0, .int .i64 0, .slice none 0 0] 129)
 have hb2 := Ad (w := w1) (.cells #[.slice A1 (ts.length + 1 + 1 + 1 + 1) c1, .int .i64 s.size, .int .i64 0, .int .i64 0, .slice none 0 0] 129)
 have hx2 := blk hb2 HX1.out
 have hps : PS (w1.alloc (.cells #[.slice A1 (ts.length + 1 + 1 + 1 + 1) c1, .int .i64 s.size, .int .i64 0, .int .i64 0, .slice none 0 0] 129)) w1.heap.size (.slice none 0 0) (t1 :: t2 :: t3 :: t4 :: ts, []) := ⟨_, _, _, hq, HT1.out.below hb2, World.ownsRow_nil _ _ _ _⟩
 have hbw := Aa HB1.out HB1.out.size hb2
 have l1 : w.heap.size < w1.heap.size := lt_of_block HX1.out
 generalize w1.alloc (.cells #[.slice A1 (ts.length + 1 + 1 + 1 + 1) c1, .int .i64 s.size, .int .i64 0, .int .i64 0, .slice none 0 0] 129) = w2 at *
 obtain ⟨q, hq1⟩ : ∃ q, w1.heap.size = q := ⟨_, rfl⟩
 rw [hq1] at hps l1
 have HPS := Lib.hid hps
 have HX2 := Lib.hid hx2
 have HBW := Lib.hid hbw
 clear hq hb2 hx2 hps hbw HX1 HT1 HB1
 go_upto_region 6 with (go_at_call 64; rw [hq1]; refine (HST.out _ _ HPS.out).mono ?_; rintro e w3 ⟨sv3, rfl, hp3, hf3⟩; obtain ⟨A3, c3, rfl, hc3, _⟩ := Bt (by obtain ⟨_, _, _, _, _, h⟩ := hp3; exact h); have HX3 := Lib.hid (Gf hf3 HX2.out (by omega) (by intro e; cases e)).1; have HP3 := Lib.hid hp3; have HF3 := Lib.hid hf3; clear hp3 hf3)
 have hb4 := Ad (w := w3) (BG 5 tt (.slice A3 st.length c3))
 have hx4 := blk hb4 HX3.out
 have hy4 := Ab w3 (BG 5 tt (.slice A3 st.length c3))
 have hp4 := HP3.out.keep hb4
 have hf4 := HF3.out.trans (Fr.of_below (sv := .slice A3 st.length c3) hb4 HP3.out.lt)
 generalize w3.alloc (BG 5 tt (.slice A3 st.length c3)) = w4 at *
 have hb0 : Below w.heap.size w w4 := HBW.out.trans ((hf4.below.mono (Nat.le_of_lt l1)))
 obtain ⟨left4, E4, a4, hB4, ⟨la, lc, rfl, _, _, _⟩, hO4⟩ := hp4
 have HX4 := Lib.hid hx4
 have HB4 := Lib.hid hb0
 have HR4 := Lib.hid (Ln hO4)
 have HNB : Hid (∀ b o, A3 = some (⟨b, o, none⟩ : Addr) → b ≠ w.heap.size) := Lib.hid (fun b o e => by
  subst e
  have := (hO4.lt b rfl).1
  omega)
 clear hm HX3 HP3 HF3 HPS HX2 HBW hb4 hx4 hf4 hb0 hO4 HST
 obtain ⟨b0, b1, b2, b3, b4, b5⟩ := CC hB4
 simp only [List.length_nil] at b0
 obtain ⟨y0, y1, y2, y3, y4, y5, y6, y7⟩ := BN hy4
 have HCK := Lib.hid (NC tt A3 st.length c3 w4 (fun w' hb => HNM.out w' (HL.out.below (Aa HB4.out HB4.out.size hb))) (fun w' hb => HRT.out A3 c3 w' (HL.out.below (Aa HB4.out HB4.out.size hb)) (HR4.out.keep hb)) (by have := H0.out; omega) (by omega))
 have HY4 := Lib.hid hy4
 clear hB4 hy4 HNM HRT
 go_wp2_with (go_at_call 67; refine (HCK.out).mono ?_; rintro e w5 ⟨rfl, hb5⟩; have hx5 := blk hb5 HX4.out; have hy5 := blk hb5 HY4.out; have HB5 := Lib.hid (Aa HB4.out HB4.out.size hb5); have HR5 := Lib.hid (HR4.out.keep hb5); clear hb5 y0 y1 y2 y3 y4 y5 y6 y7 b0 b1 b2 b3 b4 b5; obtain ⟨y0, y1, y2, y3, y4, y5, y6, y7⟩ := BN hy5; obtain ⟨x0, x1, x2, x3, x4, x5, x6, x7⟩ := BN hx5; clear hx5 hy5)
 refine bodyPost_ret (v := .tuple #[I6 5 tt (.slice A3 st.length c3), .int .i64 0, .int .i64 0]) (by simp [results, Tryz.results42, go_sem, Ai, x0, x1, x2, x3, x4, x5, x6]) rfl ?_
 refine ⟨A3, c3, rfl, ?_, hc3, Ag (Nat.le_refl _) [_, _, _, _, _, _, _] 0 _ HB5.out⟩
 exact RowS.sets (us := [_, _, _, _, _, _, _]) HR5.out HNB.out
end Go.Proofs.YtbemgcjckchdjaaGreatDoor
