import Derived.Test.YtbemgcjckchdjaaGreatDoorKQa
import Derived.Deep.RegionLaw
import Derived.Carry
import Derived.Maps.OwnOps
/- parse.cursor.need, name, key, keys (of one text), where they find what they look for. -/
namespace Go.Proofs.YtbemgcjckchdjaaGreatDoor
open Go.RowKit
set_option linter.unusedSimpArgs false
set_option linter.unusedVariables false
theorem PS.frame {w w' : World} {p : Nat} {sv : Value} {s : PSt} (h : PS w p sv s) (hb : Below w.heap.size w w') : PS w' p sv s ∧ Fr p sv w sv w' := ⟨h.keep hb, Fr.of_below hb h.lt⟩
/-- a row of texts that no call of the parser's changes -/
def TxtAt (w : World) (p : Nat) (sv : Value) (v : Value) (l : List ByteArray) : Prop :=
  ∃ a c, v = .slice a l.length c ∧ l.length ≤ 100 ∧ (l = [] ∨ ∃ b o, a = some ⟨b, o, none⟩ ∧ b < w.heap.size ∧ b ≠ p ∧ sv.ownBlock ≠ some b ∧ ∀ j, j < l.length → w.cell? ⟨b, o + j, none⟩ = some (.string (l.getD j ByteArray.empty)))
theorem TxtAt.row {w : World} {p : Nat} {sv v : Value} {l : List ByteArray} (h : TxtAt w p sv v l) : TxtRow w v l := by
  obtain ⟨a, c, e, h1, h2⟩ := h
  refine ⟨a, c, e, h1, ?_⟩
  rcases h2 with h2 | ⟨b, o, ea, hb, _, _, hc⟩
  · exact Or.inl h2
  · exact Or.inr ⟨b, o, ea, hb, hc⟩
theorem TxtAt.fr {w w' : World} {p : Nat} {sv sv' v : Value} {l : List ByteArray} (h : TxtAt w p sv v l) (hf : Fr p sv w sv' w') : TxtAt w' p sv' v l := by
  obtain ⟨a, c, e, h1, h2⟩ := h
  refine ⟨a, c, e, h1, ?_⟩
  rcases h2 with h2 | ⟨b, o, ea, hb, hne, hs, hc⟩
  · exact Or.inl h2
  · refine Or.inr ⟨b, o, ea, Nat.lt_of_lt_of_le hb hf.size, hne, fun e2 => ?_, fun j hj => ?_⟩
    · rcases hf.own b e2 with h | h
      · exact hs h
      · omega
    · exact (World.cell?_of_block (a := ⟨b, o + j, none⟩) (hf.keep b hb hne hs)).trans (hc j hj)
/-- the row of one text that a call lays -/
theorem txt_one (w : World) (s : ByteArray) (T : TypeId) : TxtRow (w.alloc (.cells #[.string s] T)) (.slice (some ⟨w.heap.size, 0, none⟩) 1 1) [s] :=
  ⟨_, _, rfl, by simp, Or.inr ⟨w.heap.size, 0, rfl, by simp, fun j hj => by
    obtain rfl : j = 0 := by simpa using hj
    exact (cell1 (heap_last w (.cells #[.string s] T))).1⟩⟩
def UnitPost (p : Nat) (sv : Value) (w : World) (s : PSt) (e : Ending) (w' : World) : Prop := e = .returned (.tuple #[]) ∧ ∃ sv', PS w' p sv' s ∧ Fr p sv w sv' w'
set_option maxHeartbeats 1000000 in
theorem need_yes (k : Int) (texts : List ByteArray) (tv : Value) (p : Nat) (sv : Value) (t : TK) (r : List TK) (st : List ST) (w : World) (hP : PS w p sv (t :: r, st)) (hT : TxtRow w tv texts) (hn : nextP k texts (t :: r) = true) :
    Calls Tryz.prog 118 #[.pointer (some ⟨p, 0, none⟩), .int .u8 k, tv] w fun e w' => e = .returned (.string t.t) ∧ PS w' p sv (r, st) ∧ Fr p sv w sv w' := by
  have H := Lib.hid (take_yes k texts tv p sv t r st w hP hT hn)
  have hl := hP.lt
  clear hP hT hn
  go_enter Tryz.func118, Tryz.ntmps118
  go_wp2_with (go_at_call 117; refine (H.out).mono ?_; rintro e w7 ⟨rfl, hp7, hf7⟩; have hz7 := hf7.size; have HP7 := Lib.hid hp7; have HF7 := Lib.hid hf7; clear hp7 hf7)
  go_ret
  obtain ⟨h1, h2⟩ := (HP7.out).frame (below_new (.cells #[.int .u8 t.k, .string t.t, .int .i64 t.n, .int .i64 t.a] 158))
  exact ⟨rfl, h1, HF7.out.trans h2⟩
set_option maxHeartbeats 1000000 in
theorem cname_yes (p : Nat) (sv : Value) (t : TK) (r : List TK) (st : List ST) (w : World) (hP : PS w p sv (t :: r, st)) (hn : nextP 1 [] (t :: r) = true) :
    Calls Tryz.prog 87 #[.pointer (some ⟨p, 0, none⟩)] w fun e w' => e = .returned (.string t.t) ∧ PS w' p sv (r, st) ∧ Fr p sv w sv w' := by
  have H := Lib.hid (need_yes 1 [] (.slice none 0 0) p sv t r st w hP (txt_nil w) hn)
  clear hP hn
  go_enter Tryz.func87, Tryz.ntmps87
  go_wp2_with (go_at_call 118; refine (H.out).mono ?_; rintro e w7 ⟨rfl, hp7, hf7⟩; have HP7 := Lib.hid hp7; have HF7 := Lib.hid hf7; clear hp7 hf7)
  go_ret
  exact ⟨rfl, HP7.out, HF7.out⟩
set_option maxHeartbeats 1000000 in
theorem key_no (x : ByteArray) (p : Nat) (sv : Value) (s : PSt) (w : World) (hP : PS w p sv s) (hn : nextP 2 [x] s.1 = false) :
    Calls Tryz.prog 86 #[.pointer (some ⟨p, 0, none⟩), .string x] w fun e w' => e = .returned (.bool false) ∧ Below w.heap.size w w' := by
  have H := Lib.hid (take_no 2 [x] _ p sv s _ (hP.keep (below_new _)) (txt_one w x 9) hn)
  have hl := hP.lt
  clear hP hn
  go_enter Tryz.func86, Tryz.ntmps86
  go_wp2_with (go_at_call 117; refine (H.out).mono ?_; rintro e w7 ⟨rfl, hb7⟩; have HB7 := Lib.hid hb7; clear hb7)
  go_ret
  exact ⟨rfl, below_call0 (below_call0 (below_new _) (below_new _).size HB7.out) (below_call0 (below_new _) (below_new _).size HB7.out).size (below_new _)⟩
set_option maxHeartbeats 1000000 in
theorem key_yes (x : ByteArray) (p : Nat) (sv : Value) (t : TK) (r : List TK) (st : List ST) (w : World) (hP : PS w p sv (t :: r, st)) (hn : nextP 2 [x] (t :: r) = true) :
    Calls Tryz.prog 86 #[.pointer (some ⟨p, 0, none⟩), .string x] w fun e w' => e = .returned (.bool true) ∧ PS w' p sv (r, st) ∧ Fr p sv w sv w' := by
  have hb0 := below_new (w := w) (.cells #[.string x] 9)
  have HF0 := Lib.hid (Fr.of_below (sv := sv) hb0 hP.lt)
  have H := Lib.hid (take_yes 2 [x] _ p sv t r st _ (hP.keep hb0) (txt_one w x 9) hn)
  have hl := hP.lt
  clear hP hn hb0
  go_enter Tryz.func86, Tryz.ntmps86
  go_wp2_with (go_at_call 117; refine (H.out).mono ?_; rintro e w7 ⟨rfl, hp7, hf7⟩; have HP7 := Lib.hid hp7; have HF7 := Lib.hid hf7; clear hp7 hf7)
  go_ret
  obtain ⟨h1, h2⟩ := (HP7.out).frame (below_new (.cells #[.int .u8 t.k, .string t.t, .int .i64 t.n, .int .i64 t.a] 158))
  exact ⟨rfl, h1, (HF0.out.trans HF7.out).trans h2⟩
set_option maxHeartbeats 1000000 in
theorem keys_one (x : ByteArray) (tb : Nat) (p : Nat) (sv : Value) (t : TK) (r : List TK) (st : List ST) (w : World) (hP : PS w p sv (t :: r, st)) (hx : w.cell? ⟨tb, 0, none⟩ = some (.string x)) (hn : nextP 2 [x] (t :: r) = true) :
    Calls Tryz.prog 88 #[.pointer (some ⟨p, 0, none⟩), .slice (some ⟨tb, 0, none⟩) 1 1] w (UnitPost p sv w (r, st)) := by
  have hb0 := below_new (w := w) (.cells #[.string x] 9)
  have HF0 := Lib.hid (Fr.of_below (sv := sv) hb0 hP.lt)
  have H := Lib.hid (need_yes 2 [x] _ p sv t r st _ (hP.keep hb0) (txt_one w x 9) hn)
  have hl := hP.lt
  clear hP hn hb0
  go_enter Tryz.func88, Tryz.ntmps88
  go_wp2_with fail
  go_loopw [8] (fun s8 wr => (s8 = .int .i64 (0 : Nat) ∧ w = wr) ∨ (s8 = .int .i64 (1 : Nat) ∧ PS wr p sv (r, st) ∧ Fr p sv w sv wr)) (fun s8 _ => 1 - (intOf s8).toNat)
  case atStart => exact Or.inl ⟨rfl, rfl⟩
  case round =>
    rcases hrel with ⟨rfl, rfl⟩ | ⟨rfl, hp, hf⟩
    · go_wp2_with (go_at_call 118; refine (H.out).mono ?_; rintro e w7 ⟨rfl, hp7, hf7⟩; have HP7 := Lib.hid hp7; have HF7 := Lib.hid hf7; clear hp7 hf7)
      go_roundw
      case rel => exact Or.inr ⟨rfl, HP7.out, HF0.out.trans HF7.out⟩
      case measure => simp [intOf]
    · have HP := Lib.hid hp
      have HF := Lib.hid hf
      clear hp hf
      go_wp2_with fail
      go_end0
      exact ⟨rfl, sv, HP.out, HF.out⟩
end Go.Proofs.YtbemgcjckchdjaaGreatDoor
/- parse.parser.put. -/
namespace Go.Proofs.YtbemgcjckchdjaaGreatDoor
open Go.RowKit
set_option linter.unusedSimpArgs false
set_option linter.unusedVariables false
theorem Tryz.infoS : (Tryz.prog.info? 43).map (fun i => (i.zero, i.size, i.bytes)) = some (some (.agg #[.int .u8 0, .string ⟨#[]⟩, .int .i64 0]), 3, 32) := by kernel_rfl
theorem three_at {W : World} {b : Nat} {v0 v1 v2 : Value} {T : TypeId} (h : W.heap[b]? = some (.cells #[v0, v1, v2] T (0, 0))) : ∀ j u, [v0, v1, v2][j]? = some u → W.cell? ((⟨b, 0, none⟩ : Addr).add j) = some u := by
  intro j u hj
  obtain ⟨c0, c1, c2, _⟩ := cells3 h
  rw [addr_add, Nat.zero_add]
  match j, hj with
  | 0, hj => cases hj; exact c0
  | 1, hj => cases hj; exact c1
  | 2, hj => cases hj; exact c2
theorem owns_val {w : World} {B : Nat} {T : TypeId} {sz n : Nat} {v : Value} {xs : List Value} (h : w.ownsRow B T sz v n xs) : ∃ A c, v = .slice A n c ∧ n ≤ c ∧ c ≤ maxLen := by
  rcases h.2 with ⟨rfl, rfl⟩ | ⟨g, cap, cur, rfl, _, _, h1, h2, _⟩
  · exact ⟨none, 0, rfl, Nat.le_refl _, by unfold maxLen; omega⟩
  · exact ⟨_, _, rfl, h1, h2⟩
theorem put_end {w W0 w1 : World} {p g cap : Nat} {A : Option Addr} {c : Nat} {ts : List TK} {st : List ST} {x : ST} (hP : PS w p (.slice A st.length c) (ts, st)) (hD : Below w.heap.size w W0) (hgrow : W0.grownBy w1 (Value.slice A st.length c).ownBlock)
    (hown : w1.ownsRow (p + 1) 43 3 (.slice (some ⟨g, 0, none⟩) (st.length + 1) cap) (st.length + 1) (scells st ++ [.int .u8 x.k, .string x.t, .int .i64 x.n])) (hat : (Value.slice A st.length c).ownBlock = some g ∨ w.heap.size ≤ g) :
    PS (w1.setCell ⟨p, 4, none⟩ (.slice (some ⟨g, 0, none⟩) (st.length + 1) cap)) p (.slice (some ⟨g, 0, none⟩) (st.length + 1) cap) (ts, st ++ [x]) ∧ Fr p (.slice A st.length c) w (.slice (some ⟨g, 0, none⟩) (st.length + 1) cap) (w1.setCell ⟨p, 4, none⟩ (.slice (some ⟨g, 0, none⟩) (st.length + 1) cap)) := by
  have hl := hP.lt
  obtain ⟨left, E, a, hB, hT, hO⟩ := hP
  have ho : ∀ k, (Value.slice A st.length c).ownBlock = some k → p + 1 ≤ k := fun k hk => (hO.lt k hk).1
  have hs0 := hD.size
  have hs1 := hgrow.size
  have hg : p + 1 ≤ g := by
    rcases hat with h | h
    · exact ho g h
    · omega
  have hb1 : Below p w w1 := (hD.mono (Nat.le_of_lt hl)).grown hgrow (by omega) (fun k hk => by have := ho k hk; omega)
  have hb2 : Below p w (w1.setCell ⟨p, 4, none⟩ (.slice (some ⟨g, 0, none⟩) (st.length + 1) cap)) := hb1.setCell (p := ⟨p, 4, none⟩) (Nat.le_refl _) _
  have hp1 : w1.heap[p]? = w.heap[p]? := (hgrow.block p (by omega) (fun e => by have := ho p e.symm; omega)).trans (hD.block p hl)
  have hB1 : w1.heap[p]? = some (.cells #[left, .int .i64 E, .int .i64 0, .int .i64 a, .slice A st.length c] 129 (0, 0)) := hp1.trans hB
  refine ⟨⟨left, E, a, heap_setCell_same _ _ 4 _ _ _ hB1, hT.below hb2, ?_⟩, hb2, ?_, fun b hb hne hs => ?_, fun b e => ?_⟩
  · rw [scells_snoc, List.length_append]
    exact owns_set hown (fun e => by have : g = p := Option.some.inj e; omega)
  · have := hb2.size; exact this
  · rw [Below.heap_setCell _ _ _ _ hne]
    exact (hgrow.block b (by omega) (fun e => hs e.symm)).trans (hD.block b hb)
  · have e2 : g = b := Option.some.inj e
    subst e2
    exact hat
theorem new_at {W : World} {n : Nat} {o : Obj} (h : W.heap.size = n) : (W.alloc o).drew.heap[n]? = some o := by subst h; exact heap_last W o
theorem put_mid {W w1 : World} {p n m : Nat} {A : Option Addr} {c : Nat} {o x : Obj} (hgrow : (W.alloc o).drew.grownBy w1 (Value.slice A m c).ownBlock) (ho : ∀ k, (Value.slice A m c).ownBlock = some k → p + 1 ≤ k) (hl : p < n) (hW : W.heap.size = n + 1) (hB : W.heap[p]? = some x) : w1.heap[p]? = some x :=
  (hgrow.block p (by show p < (W.alloc o).heap.size; simp; omega) (fun e => by have := ho p e.symm; omega)).trans (blk_alloc hB)
set_option maxHeartbeats 2000000 in
set_option maxRecDepth 100000 in
theorem put_calls (x : ST) (p : Nat) (sv : Value) (s s' : PSt) (w : World) (hP : PS w p sv s) (hput : putP x s = some s') :
    Calls Tryz.prog 169 #[.pointer (some ⟨p, 0, none⟩), .agg #[.int .u8 x.k, .string x.t, .int .i64 x.n]] w (UnitPost p sv w s') := by
  obtain ⟨ts, st⟩ := s
  unfold putP at hput
  simp only at hput
  split at hput
  · rename_i hlen
    cases hput
    have hl := hP.lt
    obtain ⟨A, c, rfl, hnc, hcm⟩ := owns_val (by obtain ⟨_, _, _, _, _, h⟩ := hP; exact h)
    have HP := Lib.hid hP
    obtain ⟨left, E, a, hB, hT, hO⟩ := hP
    have hD := below_new (w := w) (.cells #[.int .u8 x.k, .string x.t, .int .i64 x.n] 43)
    have hb1 := blk_alloc (o := .cells #[.int .u8 x.k, .string x.t, .int .i64 x.n] 43) hB
    have hx1 := heap_last w (.cells #[.int .u8 x.k, .string x.t, .int .i64 x.n] 43)
    have hO1 := hO.alloc (.cells #[.int .u8 x.k, .string x.t, .int .i64 x.n] 43)
    have hown0 : ∀ k, (Value.slice A st.length c).ownBlock = some k → p + 1 ≤ k := fun k hk => (hO.lt k hk).1
    obtain ⟨m, hm⟩ : ∃ m, st.length = m := ⟨_, rfl⟩
    have HM := Lib.hid hm
    rw [hm] at hb1 hO1 hlen hown0
    unfold maxLen at hcm
    clear hB hT hO
    rw [hm] at hnc
    go_enter Tryz.func169, Tryz.ntmps169
    clear hm
    have hW1 : (w.alloc (.cells #[.int .u8 x.k, .string x.t, .int .i64 x.n] 43)).heap.size = w.heap.size + 1 := by simp
    go_upto_region 1 with (fail)
    generalize w.alloc (.cells #[.int .u8 x.k, .string x.t, .int .i64 x.n] 43) = W at *
    obtain ⟨b0, b1, b2, b3, b4, b5⟩ := cells5 hb1
    obtain ⟨x0, x1, x2, x3⟩ := cells3 hx1
    have HO1 := Lib.hid hO1
    have HB1 := Lib.hid hb1
    have HD := Lib.hid hD
    have HW1 := Lib.hid hW1
    have HOW := Lib.hid hown0
    clear hO1 hb1 hx1 hD hW1 hown0
    go_upto_region 4 with (fail)
    obtain ⟨i0, hi0, hz00, hz1, hz2⟩ := info_parts Tryz.infoS
    have hw2 : p < w.heap.size + 1 + 1 := by omega
    have E1 : Hid (m + 1 ≤ maxLen) := Lib.hid (by unfold maxLen; omega)
    have E2 : Hid ((m + 1) * 32 ≤ 140737488355328) := Lib.hid (by omega)
    have E3 : Hid ((W.alloc (.cells #[.int .u8 x.k, .string x.t, .int .i64 x.n] 43)).drew.heap.size = w.heap.size + 1 + 1) := Lib.hid (by simp [HW1.out])
    have E4 : Hid (p + 1 ≤ (W.alloc (.cells #[.int .u8 x.k, .string x.t, .int .i64 x.n] 43)).drew.heap.size) := Lib.hid (by rw [E3.out]; omega)
    have E5 : Hid (∀ u ∈ [Value.int .u8 x.k, .string x.t, .int .i64 x.n], u.oneCell' = true) := Lib.hid (by intro u hu; simp only [List.mem_cons, List.not_mem_nil, or_false] at hu; rcases hu with rfl | rfl | rfl <;> rfl)
    have a4 : (W.alloc (.cells #[.int .u8 x.k, .string x.t, .int .i64 x.n] 43)).drew.cell? ⟨p, 4, none⟩ = some (.slice A m c) := keepC (below_new (.cells #[.int .u8 x.k, .string x.t, .int .i64 x.n] 43)).drew b4
    have a5 : (W.alloc (.cells #[.int .u8 x.k, .string x.t, .int .i64 x.n] 43)).cell? ⟨p, 4, none⟩ = some (.slice A m c) := keepC (below_new (.cells #[.int .u8 x.k, .string x.t, .int .i64 x.n] 43)) b4
    go_region_law ((refine step_append_lies _ rfl (.tmp 36) (.tmp 38) 22 rfl (p + 1) 43 i0 (.agg #[.int .u8 0, .string ⟨#[]⟩, .int .i64 0]) 3 32 Tryz.underlying22 hi0 hz00 hz1 hz2 rfl (by decide) (.slice A m c) m (scells st) (by simp [Act.eval, Act.put]) (HO1.out.alloc (.cells #[.int .u8 x.k, .string x.t, .int .i64 x.n] 43)) ⟨w.heap.size + 1, 0, none⟩ 1 1 [.int .u8 x.k, .string x.t, .int .i64 x.n] (by simp [Act.eval, Act.put, HW1.out]) rfl (three_at (new_at HW1.out)) E5.out (by decide) E1.out E2.out E4.out (w.heap.size + 1 + 1) E3.out ?_); intro g cap w1 hown hgrow hat hlt; have hq := put_mid hgrow HOW.out hl HW1.out HB1.out; obtain ⟨q0, q1, q2, q3, q4, q5⟩ := cells5 hq; have HOWN := Lib.hid hown; have HGROW := Lib.hid hgrow; have HAT := Lib.hid hat; clear hown hgrow hat hq)
    all_goals
      go_end0
      obtain rfl := HM.out
      exact ⟨rfl, _, put_end (x := x) HP.out ((HD.out.alloc HD.out.size _).drew) HGROW.out HOWN.out (HAT.out.imp id (fun h => by omega))⟩
  · cases hput
end Go.Proofs.YtbemgcjckchdjaaGreatDoor
/- parse.parser.nest, path; the map that primary lays. -/
namespace Go.Proofs.YtbemgcjckchdjaaGreatDoor
open Go.RowKit
set_option linter.unusedSimpArgs false
set_option linter.unusedVariables false
set_option maxHeartbeats 2000000 in
theorem nest_yes (d : Int) (p : Nat) (sv : Value) (s s' : PSt) (w : World) (hP : PS w p sv s) (hs : nestP d s = some s') (hd : 0 ≤ d) :
    Calls Tryz.prog 185 #[.pointer (some ⟨p, 0, none⟩), .int .i64 d] w fun e w' => e = .returned (.bool true) ∧ PS w' p sv s' ∧ Fr p sv w sv w' := by
  obtain ⟨ts, st⟩ := s
  unfold nestP at hs
  split at hs
  · rename_i hlt
    cases ts with
    | nil => cases hs
    | cons t r =>
      cases hs
      have hl := hP.lt
      have HP := Lib.hid hP
      obtain ⟨left, E, a, hB, ⟨la, lc, rfl, hlc, hcm, hrow⟩, hO⟩ := hP
      simp only [List.length_cons] at hB hlc
      rcases hrow with h0 | hrow
      · cases h0
      have HROW := Lib.hid hrow
      obtain ⟨b, o, rfl, hltb, hc⟩ := hrow
      have HB := Lib.hid hB
      have HO := Lib.hid hO
      have HCM := Lib.hid hcm
      obtain ⟨c', rfl⟩ : ∃ c', lc = c' + 1 := ⟨lc - 1, by omega⟩
      unfold maxLen at hcm
      obtain ⟨m, hm⟩ : ∃ m, r.length = m := ⟨_, rfl⟩
      rw [hm] at hB hlc
      have HM := Lib.hid hm
      have d1 : decide (16 ≤ d) = false := by simpa using hlt
      obtain ⟨b0, b1, b2, b3, b4, b5⟩ := cells5 hB
      clear hO hc hm hB
      have HA : Hid (r = [] ∨ (if c' = 0 then some (⟨b, o, none⟩ : Addr) else some ⟨b, o + 4, none⟩) = some ⟨b, o + 4, none⟩) := Lib.hid (by
        by_cases h : c' = 0
        · have hm0 := HM.out
          exact Or.inl (List.length_eq_zero_iff.1 (by omega))
        · exact Or.inr (if_neg h))
      go_enter Tryz.func185, Tryz.ntmps185
      go_upto_region 5 with (fail)
      have hp3 := heap_setCell_same w p 0 _ _ (.slice (if c' = 0 then some (⟨b, o, none⟩ : Addr) else some ⟨b, o + 4, none⟩) m c') HB.out
      have hf3 := fr_set (o := 0) (sv := sv) (v := .slice (if c' = 0 then some (⟨b, o, none⟩ : Addr) else some ⟨b, o + 4, none⟩) m c') hl (Below.refl _ w)
      have ho3 := owns_set (o := 0) (u := .slice (if c' = 0 then some (⟨b, o, none⟩ : Addr) else some ⟨b, o + 4, none⟩) m c') HO.out (owns_ne HO.out (Nat.lt_succ_self p))
      generalize (if c' = 0 then some (⟨b, o, none⟩ : Addr) else some ⟨b, o + 4, none⟩) = A at *
      generalize w.setCell ⟨p, 0, none⟩ (.slice A m c') = W2 at *
      have HP3 := Lib.hid hp3
      have HF3 := Lib.hid hf3
      have HO3 := Lib.hid ho3
      clear hp3 hf3 ho3 b0 b1 b2 b3 b4 b5
      go_wp2_with fail
      go_ret
      refine ⟨rfl, ?_, HF3.out⟩
      refine take_end (a' := A) (c' := c') HB.out HROW.out rfl HCM.out (by have := HM.out; omega) ?_ HO.out (by rw [HM.out]; exact HP3.out) HF3.out.below HO3.out
      rcases HA.out with h | h
      · exact Or.inl h
      · exact Or.inr ⟨b, o, rfl, h⟩
  · cases hs
set_option maxHeartbeats 2000000 in
set_option maxRecDepth 100000 in
theorem ppath_calls (p : Nat) (sv : Value) (s s' : PSt) (w : World) (hP : PS w p sv s) (hs : pathP s = some s') :
    Calls Tryz.prog 190 #[.pointer (some ⟨p, 0, none⟩)] w (UnitPost p sv w s') := by
  obtain ⟨ts, st⟩ := s
  unfold pathP at hs
  split at hs
  · cases hs
  · rename_i t s1 ht
    split at hs
    · cases hs
    · rename_i hdot
      unfold takeP at ht
      simp only at ht
      split at ht
      · rename_i hn
        cases ts with
        | nil => cases ht
        | cons t0 r =>
          simp only [Option.some.injEq, Prod.mk.injEq] at ht
          obtain ⟨rfl, rfl⟩ := ht
          have H1 := Lib.hid (cname_yes p sv t0 r st w hP hn)
          have H2 := Lib.hid (fun (w' : World) (h : PS w' p sv (r, st)) => take_no 5 [⟨#[46]⟩] _ p sv (r, st) _ (h.keep (below_new _)) (txt_one w' ⟨#[46]⟩ 9) (by simpa using hdot))
          have H3 := Lib.hid (fun (w' : World) (h : PS w' p sv (r, st)) => put_calls ⟨6, t0.t, 0⟩ p sv (r, st) s' w' h hs)
          have hl := hP.lt
          clear hP hn hs hdot
          go_enter Tryz.func190, Tryz.ntmps190
          go_wp2_with (go_at_call 87; refine (H1.out).mono ?_; rintro e w7 ⟨rfl, hp7, hf7⟩; have HP7 := Lib.hid hp7; have HF7 := Lib.hid hf7; clear hp7 hf7)
          go_loopw [2] (fun s2 wr => s2 = .string t0.t ∧ w7 = wr) (fun _ _ => 0)
          case atStart => exact ⟨rfl, rfl⟩
          case round =>
            obtain ⟨rfl, rfl⟩ := hrel
            have lp := HP7.out.lt
            have H2' := Lib.hid (H2.out _ HP7.out)
            have hz1 : (w7.alloc (.cells #[.string ⟨#[46]⟩] 9)).heap.size = w7.heap.size + 1 := by simp
            go_wp2_with (first | (go_at_call 117; refine (H2'.out).mono ?_; rintro e w8 ⟨rfl, hb8⟩; have hP8 := HP7.out.keep (below_call0 (below_new _) (below_new _).size hb8); have hF8 := Fr.of_below (sv := sv) (below_call0 (below_new _) (below_new _).size hb8) HP7.out.lt; have HP8 := Lib.hid hP8; have HF8 := Lib.hid hF8; clear hP8 hF8 hb8))
            have hP9 := HP8.out.keep (below_new (.cells #[.int .u8 0, .string ⟨#[]⟩, .int .i64 0, .int .i64 0] 158))
            have HF9 := Lib.hid ((HF7.out.trans HF8.out).trans (Fr.of_below (sv := sv) (below_new (.cells #[.int .u8 0, .string ⟨#[]⟩, .int .i64 0, .int .i64 0] 158)) HP8.out.lt))
            have H3' := Lib.hid (H3.out _ hP9)
            clear hP9
            go_wp2_with (go_at_call 169; refine (H3'.out).mono ?_; rintro e wz ⟨rfl, sz, hpz, hfz⟩; have HPZ := Lib.hid hpz; have HFZ := Lib.hid hfz; clear hpz hfz)
            go_end0
            exact ⟨rfl, sz, HPZ.out, HF9.out.trans HFZ.out⟩
      · cases ht
theorem underlyingM' : Tryz.prog.underlying 251 = some (.map 9 33) := by kernel_rfl
theorem underlyingK' : Tryz.prog.underlying 9 = some .string := by kernel_rfl
theorem set_last (w : World) (o o' : Obj) : ({ (w.alloc o) with heap := (w.alloc o).heap.setIfInBounds w.heap.size o' } : World) = w.alloc o' := by
  show ({ w with heap := (w.heap.push o).setIfInBounds w.heap.size o' } : World) = { w with heap := w.heap.push o' }
  congr 1
  apply Array.ext'
  simp
theorem run_findKeyS (w : World) (k : ByteArray) (es : Array MapEntry) (r : Option (Nat × Value)) (h : Instr.findNow .string (.string k) es.toList 0 = some r) :
    (Instr.findKey 9 (.string k) es.toList).run Tryz.prog w = .ok r w := by
  simp only [Instr.findKey, Sem.run_bind, run_underlying underlyingK', Result.andThen, h, Sem.run_pure]
theorem run_checkS (w : World) (k : ByteArray) (b : Bool) : (Instr.checkKey b 10000 9 (.string k)).run Tryz.prog w = .ok () w := by
  unfold Instr.checkKey
  simp only [Sem.run_bind, run_underlying underlyingK', Result.andThen, Sem.run_pure]
theorem run_insS (w : World) (es : Array MapEntry) (c : Nat) (k : ByteArray) (v : Value) (h : Instr.findNow .string (.string k) es.toList 0 = some none) :
    (Instr.mapUpdate 251 (.map (some w.heap.size)) (.string k) v).run Tryz.prog (w.alloc (.map es c)) = .ok () (w.alloc (.map (es.push { key := .string k, val := v, born := c }) (c + 1))) := by
  simp [Instr.mapUpdate, run_underlying underlyingM', MapKept.run_getObj_map (heap_last w _), run_checkS, run_findKeyS _ _ _ _ h, MapKept.run_setObj_map _ (heap_last w _), Result.andThen]
  exact set_last w _ _
section
variable (w : World) (v v1 v2 : Value)
theorem insK1 : (Instr.mapUpdate 251 (.map (some w.heap.size)) (.string ⟨#[78, 85, 76, 76]⟩) v).run Tryz.prog (w.alloc (.map #[] 0)) = .ok () (w.alloc (.map #[{ key := .string ⟨#[78, 85, 76, 76]⟩, val := v, born := 0 }] 1)) := by
  simpa using run_insS w #[] 0 ⟨#[78, 85, 76, 76]⟩ v rfl
theorem insK2 : (Instr.mapUpdate 251 (.map (some w.heap.size)) (.string ⟨#[84, 82, 85, 69]⟩) v).run Tryz.prog (w.alloc (.map #[{ key := .string ⟨#[78, 85, 76, 76]⟩, val := v1, born := 0 }] 1)) = .ok () (w.alloc (.map #[{ key := .string ⟨#[78, 85, 76, 76]⟩, val := v1, born := 0 }, { key := .string ⟨#[84, 82, 85, 69]⟩, val := v, born := 1 }] 2)) := by
  simpa using run_insS w #[{ key := .string ⟨#[78, 85, 76, 76]⟩, val := v1, born := 0 }] 1 ⟨#[84, 82, 85, 69]⟩ v (by first | rfl | kernel_rfl | simp [Instr.findNow, Instr.sameNow])
theorem insK3 : (Instr.mapUpdate 251 (.map (some w.heap.size)) (.string ⟨#[70, 65, 76, 83, 69]⟩) v).run Tryz.prog (w.alloc (.map #[{ key := .string ⟨#[78, 85, 76, 76]⟩, val := v1, born := 0 }, { key := .string ⟨#[84, 82, 85, 69]⟩, val := v2, born := 1 }] 2)) = .ok () (w.alloc (.map #[{ key := .string ⟨#[78, 85, 76, 76]⟩, val := v1, born := 0 }, { key := .string ⟨#[84, 82, 85, 69]⟩, val := v2, born := 1 }, { key := .string ⟨#[70, 65, 76, 83, 69]⟩, val := v, born := 2 }] 3)) := by
  simpa using run_insS w #[{ key := .string ⟨#[78, 85, 76, 76]⟩, val := v1, born := 0 }, { key := .string ⟨#[84, 82, 85, 69]⟩, val := v2, born := 1 }] 2 ⟨#[70, 65, 76, 83, 69]⟩ v (by first | rfl | kernel_rfl | simp [Instr.findNow, Instr.sameNow])
end
end Go.Proofs.YtbemgcjckchdjaaGreatDoor
