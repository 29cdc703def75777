import Derived.Test.YtbemgcjckchdjaaGreatDoorLQa
import Derived.Deep.RegionLaw
import Derived.Carry
import Derived.Maps.OwnOps
import Derived.Deep.LoopGhost
import Derived.Deep.RegionHeld3
/- parse.cursor.need, name, key, keys (of one text), where they find what they look for. -/
namespace Go.Proofs.YtbemgcjckchdjaaGreatDoor
open Go.RowKit
set_option linter.unusedSimpArgs false
set_option linter.unusedVariables false
theorem PS.frame {w w' : World} {p : Nat} {sv : Value} {s : PSt} (h : PS w p sv s) (hb : Below w.heap.size w w') : PS w' p sv s ∧ Fr p sv w sv w' := ⟨h.keep hb, Fr.of_below hb h.lt⟩
def TxtAt (w : World) (p : Nat) (sv : Value) (v : Value) (l : List ByteArray) : Prop :=
 ∃ a c, v = .slice a l.length c ∧ l.length ≤ 100 ∧ (l = [] ∨ ∃ b o, a = some ⟨b, o, none⟩ ∧ b < w.heap.size ∧ b ≠ p ∧ sv.ownBlock ≠ some b ∧ ∀ j, j < l.length → w.cell? ⟨b, o + j, none⟩ = some (.string (l.getD j ByteArray.empty)))
theorem TxtAt.row {w : World} {p : Nat} {sv v : Value} {l : List ByteArray} (h : TxtAt w p sv v l) : TxtRow w v l := by
 obtain ⟨a, c, e, h1, h2⟩ := h
 refine ⟨a, c, e, h1, ?_⟩
 rcases h2 with h2 | ⟨b, o, ea, hb, _, _, hc⟩
 · exact Or.inl h2
 · exact Or.inr ⟨b, o, ea, hb, hc⟩
theorem TxtAt.fr {w w' : World} {p : Nat} {sv sv' v : Value} {l : List ByteArray} (h : TxtAt w p sv v l) (hf : Fr p sv w sv' w') : TxtAt w' p sv' v l := by
 obtain ⟨a, c, e, h1, h2⟩ := h
 refine ⟨a, c, e, h1, ?_⟩
 rcases h2 with h2 | ⟨b, o, ea, hb, hne, hs, hc⟩
 · exact Or.inl h2
 · refine Or.inr ⟨b, o, ea, Nat.lt_of_lt_of_le hb hf.size, hne, fun e2 => ?_, fun j hj => ?_⟩
   · rcases hf.own b e2 with h | h
     · exact hs h
     · omega
   · exact (World.cell?_of_block (a := ⟨b, o + j, none⟩) (hf.keep b hb hne hs)).trans (hc j hj)
theorem Fl (w : World) (s : ByteArray) (T : TypeId) : TxtRow (w.alloc (.cells #[.string s] T)) (.slice (some ⟨w.heap.size, 0, none⟩) 1 1) [s] :=
 ⟨_, _, rfl, by simp, Or.inr ⟨w.heap.size, 0, rfl, by simp, fun j hj => by
  obtain rfl : j = 0 := by simpa using hj
  exact (D8 (Ab w (.cells #[.string s] T))).1⟩⟩
def Ck (p : Nat) (sv : Value) (w : World) (s : PSt) (e : Ending) (w' : World) : Prop := e = .returned (.tuple #[]) ∧ ∃ sv', PS w' p sv' s ∧ Fr p sv w sv' w'
set_option maxHeartbeats 1000000 in
theorem KV (k : Int) (texts : List ByteArray) (tv : Value) (p : Nat) (sv : Value) (t : TK) (r : List TK) (st : List ST) (w : World) (hP : PS w p sv (t :: r, st)) (hT : TxtRow w tv texts) (hn : A6 k texts (t :: r) = true) :
  Calls Tryz.prog 118 #[.pointer (some ⟨p, 0, none⟩), .int .u8 k, tv] w fun e w' => e = .returned (.string t.t) ∧ PS w' p sv (r, st) ∧ Fr p sv w sv w' := by
 have H := Lib.hid (D3 k texts tv p sv t r st w hP hT hn)
 have hl := hP.lt
 clear hP hT hn
 go_enter Tryz.func118, Tryz.ntmps118
 go_wp2_with (go_at_call 117; refine (H.out).mono ?_; rintro e w7 ⟨rfl, hp7, hf7⟩; have hz7 := hf7.size; have HP7 := Lib.hid hp7; have HF7 := Lib.hid hf7; clear hp7 hf7)
 go_ret
 obtain ⟨h1, h2⟩ := (HP7.out).frame (Ad (.cells #[.int .u8 t.k, .string t.t, .int .i64 t.n, .int .i64 t.a] 158))
 exact ⟨rfl, h1, HF7.out.trans h2⟩
set_option maxHeartbeats 1000000 in
theorem Jx (p : Nat) (sv : Value) (t : TK) (r : List TK) (st : List ST) (w : World) (hP : PS w p sv (t :: r, st)) (hn : A6 1 [] (t :: r) = true) :
  Calls Tryz.prog 87 #[.pointer (some ⟨p, 0, none⟩)] w fun e w' => e = .returned (.string t.t) ∧ PS w' p sv (r, st) ∧ Fr p sv w sv w' := by
 have H := Lib.hid (KV 1 [] (.slice none 0 0) p sv t r st w hP (CO w) hn)
 clear hP hn
 go_enter Tryz.func87, Tryz.ntmps87
 go_wp2_with (go_at_call 118; refine (H.out).mono ?_; rintro e w7 ⟨rfl, hp7, hf7⟩; have HP7 := Lib.hid hp7; have HF7 := Lib.hid hf7; clear hp7 hf7)
 go_ret
 exact ⟨rfl, HP7.out, HF7.out⟩
set_option maxHeartbeats 1000000 in
theorem It (x : ByteArray) (p : Nat) (sv : Value) (s : PSt) (w : World) (hP : PS w p sv s) (hn : A6 2 [x] s.1 = false) :
  Calls Tryz.prog 86 #[.pointer (some ⟨p, 0, none⟩), .string x] w fun e w' => e = .returned (.bool false) ∧ Below w.heap.size w w' := by
 have H := Lib.hid (GF 2 [x] _ p sv s _ (hP.keep (Ad _)) (Fl w x 9) hn)
 have hl := hP.lt
 clear hP hn
 go_enter Tryz.func86, Tryz.ntmps86
 go_wp2_with (go_at_call 117; refine (H.out).mono ?_; rintro e w7 ⟨rfl, hb7⟩; have HB7 := Lib.hid hb7; clear hb7)
 go_ret
 exact ⟨rfl, Aa (Aa (Ad _) (Ad _).size HB7.out) (Aa (Ad _) (Ad _).size HB7.out).size (Ad _)⟩
set_option maxHeartbeats 1000000 in
theorem Mn (x : ByteArray) (p : Nat) (sv : Value) (t : TK) (r : List TK) (st : List ST) (w : World) (hP : PS w p sv (t :: r, st)) (hn : A6 2 [x] (t :: r) = true) :
  Calls Tryz.prog 86 #[.pointer (some ⟨p, 0, none⟩), .string x] w fun e w' => e = .returned (.bool true) ∧ PS w' p sv (r, st) ∧ Fr p sv w sv w' := by
 have hb0 := Ad (w := w) (.cells #[.string x] 9)
 have HF0 := Lib.hid (Fr.of_below (sv := sv) hb0 hP.lt)
 have H := Lib.hid (D3 2 [x] _ p sv t r st _ (hP.keep hb0) (Fl w x 9) hn)
 have hl := hP.lt
 clear hP hn hb0
 go_enter Tryz.func86, Tryz.ntmps86
 go_wp2_with (go_at_call 117; refine (H.out).mono ?_; rintro e w7 ⟨rfl, hp7, hf7⟩; have HP7 := Lib.hid hp7; have HF7 := Lib.hid hf7; clear hp7 hf7)
 go_ret
 obtain ⟨h1, h2⟩ := (HP7.out).frame (Ad (.cells #[.int .u8 t.k, .string t.t, .int .i64 t.n, .int .i64 t.a] 158))
 exact ⟨rfl, h1, (HF0.out.trans HF7.out).trans h2⟩
set_option maxHeartbeats 1000000 in
theorem P4 (x : ByteArray) (tb : Nat) (p : Nat) (sv : Value) (t : TK) (r : List TK) (st : List ST) (w : World) (hP : PS w p sv (t :: r, st)) (hx : w.cell? ⟨tb, 0, none⟩ = some (.string x)) (hn : A6 2 [x] (t :: r) = true) :
  Calls Tryz.prog 88 #[.pointer (some ⟨p, 0, none⟩), .slice (some ⟨tb, 0, none⟩) 1 1] w (Ck p sv w (r, st)) := by
 have hb0 := Ad (w := w) (.cells #[.string x] 9)
 have HF0 := Lib.hid (Fr.of_below (sv := sv) hb0 hP.lt)
 have H := Lib.hid (KV 2 [x] _ p sv t r st _ (hP.keep hb0) (Fl w x 9) hn)
 have hl := hP.lt
 clear hP hn hb0
 go_enter Tryz.func88, Tryz.ntmps88
 go_wp2_with fail
 go_loopw [8] (fun s8 wr => (s8 = .int .i64 (0 : Nat) ∧ w = wr) ∨ (s8 = .int .i64 (1 : Nat) ∧ PS wr p sv (r, st) ∧ Fr p sv w sv wr)) (fun s8 _ => 1 - (intOf s8).toNat)
 case atStart => exact Or.inl ⟨rfl, rfl⟩
 case round =>
  rcases hrel with ⟨rfl, rfl⟩ | ⟨rfl, hp, hf⟩
  · go_wp2_with (go_at_call 118; refine (H.out).mono ?_; rintro e w7 ⟨rfl, hp7, hf7⟩; have HP7 := Lib.hid hp7; have HF7 := Lib.hid hf7; clear hp7 hf7)
    go_roundw
    case rel => exact Or.inr ⟨rfl, HP7.out, HF0.out.trans HF7.out⟩
    case measure => simp [intOf]
  · have HP := Lib.hid hp
    have HF := Lib.hid hf
    clear hp hf
    go_wp2_with fail
    go_end0
    exact ⟨rfl, sv, HP.out, HF.out⟩
/- parse.parser.put. -/
theorem Tryz.infoS : (Tryz.prog.info? 43).map (fun i => (i.zero, i.size, i.bytes)) = some (some (.agg #[.int .u8 0, .string ⟨#[]⟩, .int .i64 0]), 3, 32) := by kernel_rfl
theorem Qw {W : World} {b : Nat} {v0 v1 v2 : Value} {T : TypeId} (h : W.heap[b]? = some (.cells #[v0, v1, v2] T (0, 0))) : ∀ j u, [v0, v1, v2][j]? = some u → W.cell? ((⟨b, 0, none⟩ : Addr).add j) = some u := by
 intro j u hj
 obtain ⟨c0, c1, c2, _⟩ := Ak h
 rw [AS, Nat.zero_add]
 match j, hj with
 | 0, hj => cases hj; exact c0
 | 1, hj => cases hj; exact c1
 | 2, hj => cases hj; exact c2
theorem Bt {w : World} {B : Nat} {T : TypeId} {sz n : Nat} {v : Value} {xs : List Value} (h : w.ownsRow B T sz v n xs) : ∃ A c, v = .slice A n c ∧ n ≤ c ∧ c ≤ maxLen := by
 rcases h.2 with ⟨rfl, rfl⟩ | ⟨g, cap, cur, rfl, _, _, h1, h2, _⟩
 · exact ⟨none, 0, rfl, Nat.le_refl _, by unfold maxLen; omega⟩
 · exact ⟨_, _, rfl, h1, h2⟩
theorem R4 {w W0 w1 : World} {p g cap : Nat} {A : Option Addr} {c : Nat} {ts : List TK} {st : List ST} {x : ST} (hP : PS w p (.slice A st.length c) (ts, st)) (hD : Below w.heap.size w W0) (hgrow : W0.grownBy w1 (Value.slice A st.length c).ownBlock)
   (hown : w1.ownsRow (p + 1) 43 3 (.slice (some ⟨g, 0, none⟩) (st.length + 1) cap) (st.length + 1) (Bi st ++ [.int .u8 x.k, .string x.t, .int .i64 x.n])) (hat : (Value.slice A st.length c).ownBlock = some g ∨ w.heap.size ≤ g) :
   PS (w1.setCell ⟨p, 4, none⟩ (.slice (some ⟨g, 0, none⟩) (st.length + 1) cap)) p (.slice (some ⟨g, 0, none⟩) (st.length + 1) cap) (ts, st ++ [x]) ∧ Fr p (.slice A st.length c) w (.slice (some ⟨g, 0, none⟩) (st.length + 1) cap) (w1.setCell ⟨p, 4, none⟩ (.slice (some ⟨g, 0, none⟩) (st.length + 1) cap)) := by
 have hl := hP.lt
 obtain ⟨left, E, a, hB, hT, hO⟩ := hP
 have ho : ∀ k, (Value.slice A st.length c).ownBlock = some k → p + 1 ≤ k := fun k hk => (hO.lt k hk).1
 have hs0 := hD.size
 have hs1 := hgrow.size
 have hg : p + 1 ≤ g := by
   rcases hat with h | h
   · exact ho g h
   · omega
 have hb1 : Below p w w1 := (hD.mono (Nat.le_of_lt hl)).grown hgrow (by omega) (fun k hk => by have := ho k hk; omega)
 have hb2 : Below p w (w1.setCell ⟨p, 4, none⟩ (.slice (some ⟨g, 0, none⟩) (st.length + 1) cap)) := hb1.setCell (p := ⟨p, 4, none⟩) (Nat.le_refl _) _
 have hp1 : w1.heap[p]? = w.heap[p]? := (hgrow.block p (by omega) (fun e => by have := ho p e.symm; omega)).trans (hD.block p hl)
 have hB1 : w1.heap[p]? = some (.cells #[left, .int .i64 E, .int .i64 0, .int .i64 a, .slice A st.length c] 129 (0, 0)) := hp1.trans hB
 refine ⟨⟨left, E, a, heap_setCell_same _ _ 4 _ _ _ hB1, hT.below hb2, ?_⟩, hb2, ?_, fun b hb hne hs => ?_, fun b e => ?_⟩
 · rw [Fc, List.length_append]
   exact Cq hown (fun e => by have : g = p := Option.some.inj e; omega)
 · have := hb2.size; exact this
 · rw [Below.heap_setCell _ _ _ _ hne]
   exact (hgrow.block b (by omega) (fun e => hs e.symm)).trans (hD.block b hb)
 · have e2 : g = b := Option.some.inj e
   subst e2
   exact hat
theorem Sw {W : World} {n : Nat} {o : Obj} (h : W.heap.size = n) : (W.alloc o).drew.heap[n]? = some o := by subst h; exact Ab W o
theorem R5 {W w1 : World} {p n m : Nat} {A : Option Addr} {c : Nat} {o x : Obj} (hgrow : (W.alloc o).drew.grownBy w1 (Value.slice A m c).ownBlock) (ho : ∀ k, (Value.slice A m c).ownBlock = some k → p + 1 ≤ k) (hl : p < n) (hW : W.heap.size = n + 1) (hB : W.heap[p]? = some x) : w1.heap[p]? = some x :=
 (hgrow.block p (by show p < (W.alloc o).heap.size; simp; omega) (fun e => by have := ho p e.symm; omega)).trans (Af hB)
set_option maxHeartbeats 2000000 in
set_option maxRecDepth 100000 in
theorem Dd (x : ST) (p : Nat) (sv : Value) (s s' : PSt) (w : World) (hP : PS w p sv s) (hput : Es x s = some s') :
   Calls Tryz.prog 169 #[.pointer (some ⟨p, 0, none⟩), .agg #[.int .u8 x.k, .string x.t, .int .i64 x.n]] w (Ck p sv w s') := by
 obtain ⟨ts, st⟩ := s
 unfold Es at hput
 simp only at hput
 split at hput
 · rename_i hlen
   cases hput
   have hl := hP.lt
   obtain ⟨A, c, rfl, hnc, hcm⟩ := Bt (by obtain ⟨_, _, _, _, _, h⟩ := hP; exact h)
   have HP := Lib.hid hP
   obtain ⟨left, E, a, hB, hT, hO⟩ := hP
   have hD := Ad (w := w) (.cells #[.int .u8 x.k, .string x.t, .int .i64 x.n] 43)
   have hb1 := Af (o := .cells #[.int .u8 x.k, .string x.t, .int .i64 x.n] 43) hB
   have hx1 := Ab w (.cells #[.int .u8 x.k, .string x.t, .int .i64 x.n] 43)
   have hO1 := hO.alloc (.cells #[.int .u8 x.k, .string x.t, .int .i64 x.n] 43)
   have hown0 : ∀ k, (Value.slice A st.length c).ownBlock = some k → p + 1 ≤ k := fun k hk => (hO.lt k hk).1
   obtain ⟨m, hm⟩ : ∃ m, st.length = m := ⟨_, rfl⟩
   have HM := Lib.hid hm
   rw [hm] at hb1 hO1 hlen hown0
   unfold maxLen at hcm
   clear hB hT hO
   rw [hm] at hnc
   go_enter Tryz.func169, Tryz.ntmps169
   clear hm
   have hW1 : (w.alloc (.cells #[.int .u8 x.k, .string x.t, .int .i64 x.n] 43)).heap.size = w.heap.size + 1 := by simp
   go_upto_region 1 with (fail)
   generalize w.alloc (.cells #[.int .u8 x.k, .string x.t, .int .i64 x.n] 43) = W at *
   obtain ⟨b0, b1, b2, b3, b4, b5⟩ := CC hb1
   obtain ⟨x0, x1, x2, x3⟩ := Ak hx1
   have HO1 := Lib.hid hO1
   have HB1 := Lib.hid hb1
   have HD := Lib.hid hD
   have HW1 := Lib.hid hW1
   have HOW := Lib.hid hown0
   clear hO1 hb1 hx1 hD hW1 hown0
   go_upto_region 4 with (fail)
   obtain ⟨i0, hi0, hz00, hz1, hz2⟩ := info_parts Tryz.infoS
   have hw2 : p < w.heap.size + 1 + 1 := by omega
   have E1 : Hid (m + 1 ≤ maxLen) := Lib.hid (by unfold maxLen; omega)
   have E2 : Hid ((m + 1) * 32 ≤ 140737488355328) := Lib.hid (by omega)
   have E3 : Hid ((W.alloc (.cells #[.int .u8 x.k, .string x.t, .int .i64 x.n] 43)).drew.heap.size = w.heap.size + 1 + 1) := Lib.hid (by simp [HW1.out])
   have E4 : Hid (p + 1 ≤ (W.alloc (.cells #[.int .u8 x.k, .string x.t, .int .i64 x.n] 43)).drew.heap.size) := Lib.hid (by rw [E3.out]; omega)
   have E5 : Hid (∀ u ∈ [Value.int .u8 x.k, .string x.t, .int .i64 x.n], u.oneCell' = true) := Lib.hid (by intro u hu; simp only [List.mem_cons, List.not_mem_nil, or_false] at hu; rcases hu with rfl | rfl | rfl <;> rfl)
   have a4 : (W.alloc (.cells #[.int .u8 x.k, .string x.t, .int .i64 x.n] 43)).drew.cell? ⟨p, 4, none⟩ = some (.slice A m c) := Ac (Ad (.cells #[.int .u8 x.k, .string x.t, .int .i64 x.n] 43)).drew b4
   have a5 : (W.alloc (.cells #[.int .u8 x.k, .string x.t, .int .i64 x.n] 43)).cell? ⟨p, 4, none⟩ = some (.slice A m c) := Ac (Ad (.cells #[.int .u8 x.k, .string x.t, .int .i64 x.n] 43)) b4
   go_region_law ((refine step_append_lies _ rfl (.tmp 36) (.tmp 38) 22 rfl (p + 1) 43 i0 (.agg #[.int .u8 0, .string ⟨#[]⟩, .int .i64 0]) 3 32 Tryz.underlying22 hi0 hz00 hz1 hz2 rfl (by decide) (.slice A m c) m (Bi st) (by simp [Act.eval, Act.put]) (HO1.out.alloc (.cells #[.int .u8 x.k, .string x.t, .int .i64 x.n] 43)) ⟨w.heap.size + 1, 0, none⟩ 1 1 [.int .u8 x.k, .string x.t, .int .i64 x.n] (by simp [Act.eval, Act.put, HW1.out]) rfl (Qw (Sw HW1.out)) E5.out (by decide) E1.out E2.out E4.out (w.heap.size + 1 + 1) E3.out ?_); intro g cap w1 hown hgrow hat hlt; have hq := R5 hgrow HOW.out hl HW1.out HB1.out; obtain ⟨q0, q1, q2, q3, q4, q5⟩ := CC hq; have HOWN := Lib.hid hown; have HGROW := Lib.hid hgrow; have HAT := Lib.hid hat; clear hown hgrow hat hq)
   all_goals
    go_end0
    obtain rfl := HM.out
    exact ⟨rfl, _, R4 (x := x) HP.out ((HD.out.alloc HD.out.size _).drew) HGROW.out HOWN.out (HAT.out.imp id (fun h => by omega))⟩
 · cases hput
/- parse.parser.nest, path; the map that primary lays. -/
set_option maxHeartbeats 2000000 in
theorem PF (d : Int) (p : Nat) (sv : Value) (s s' : PSt) (w : World) (hP : PS w p sv s) (hs : GC d s = some s') (hd : 0 ≤ d) :
   Calls Tryz.prog 185 #[.pointer (some ⟨p, 0, none⟩), .int .i64 d] w fun e w' => e = .returned (.bool true) ∧ PS w' p sv s' ∧ Fr p sv w sv w' := by
 obtain ⟨ts, st⟩ := s
 unfold GC at hs
 split at hs
 · rename_i hlt
   cases ts with
   | nil => cases hs
   | cons t r =>
     cases hs
     have hl := hP.lt
     have HP := Lib.hid hP
     obtain ⟨left, E, a, hB, ⟨la, lc, rfl, hlc, hcm, hrow⟩, hO⟩ := hP
     simp only [List.length_cons] at hB hlc
     rcases hrow with h0 | hrow
     · cases h0
     have HROW := Lib.hid hrow
     obtain ⟨b, o, rfl, hltb, hc⟩ := hrow
     have HB := Lib.hid hB
     have HO := Lib.hid hO
     have HCM := Lib.hid hcm
     obtain ⟨c', rfl⟩ : ∃ c', lc = c' + 1 := ⟨lc - 1, by omega⟩
     unfold maxLen at hcm
     obtain ⟨m, hm⟩ : ∃ m, r.length = m := ⟨_, rfl⟩
     rw [hm] at hB hlc
     have HM := Lib.hid hm
     have d1 : decide (16 ≤ d) = false := by simpa using hlt
     obtain ⟨b0, b1, b2, b3, b4, b5⟩ := CC hB
     clear hO hc hm hB
     have HA : Hid (r = [] ∨ (if c' = 0 then some (⟨b, o, none⟩ : Addr) else some ⟨b, o + 4, none⟩) = some ⟨b, o + 4, none⟩) := Lib.hid (by
       by_cases h : c' = 0
       · have hm0 := HM.out
         exact Or.inl (List.length_eq_zero_iff.1 (by omega))
       · exact Or.inr (if_neg h))
     go_enter Tryz.func185, Tryz.ntmps185
     go_upto_region 5 with (fail)
     have hp3 := heap_setCell_same w p 0 _ _ (.slice (if c' = 0 then some (⟨b, o, none⟩ : Addr) else some ⟨b, o + 4, none⟩) m c') HB.out
     have hf3 := KB (o := 0) (sv := sv) (v := .slice (if c' = 0 then some (⟨b, o, none⟩ : Addr) else some ⟨b, o + 4, none⟩) m c') hl (Below.refl _ w)
     have ho3 := Cq (o := 0) (u := .slice (if c' = 0 then some (⟨b, o, none⟩ : Addr) else some ⟨b, o + 4, none⟩) m c') HO.out (Db HO.out (Nat.lt_succ_self p))
     generalize (if c' = 0 then some (⟨b, o, none⟩ : Addr) else some ⟨b, o + 4, none⟩) = A at *
     generalize w.setCell ⟨p, 0, none⟩ (.slice A m c') = W2 at *
     have HP3 := Lib.hid hp3
     have HF3 := Lib.hid hf3
     have HO3 := Lib.hid ho3
     clear hp3 hf3 ho3 b0 b1 b2 b3 b4 b5
     go_wp2_with fail
     go_ret
     refine ⟨rfl, ?_, HF3.out⟩
     refine Lq (a' := A) (c' := c') HB.out HROW.out rfl HCM.out (by have := HM.out; omega) ?_ HO.out (by rw [HM.out]; exact HP3.out) HF3.out.below HO3.out
     rcases HA.out with h | h
     · exact Or.inl h
     · exact Or.inr ⟨b, o, rfl, h⟩
 · cases hs
set_option maxHeartbeats 2000000 in
set_option maxRecDepth 100000 in
theorem LM (p : Nat) (sv : Value) (s s' : PSt) (w : World) (hP : PS w p sv s) (hs : Ki s = some s') :
   Calls Tryz.prog 190 #[.pointer (some ⟨p, 0, none⟩)] w (Ck p sv w s') := by
 obtain ⟨ts, st⟩ := s
 unfold Ki at hs
 split at hs
 · cases hs
 · rename_i t s1 ht
   split at hs
   · cases hs
   · rename_i hdot
     unfold BW at ht
     simp only at ht
     split at ht
     · rename_i hn
       cases ts with
       | nil => cases ht
       | cons t0 r =>
         simp only [Option.some.injEq, Prod.mk.injEq] at ht
         obtain ⟨rfl, rfl⟩ := ht
         have H1 := Lib.hid (Jx p sv t0 r st w hP hn)
         have H2 := Lib.hid (fun (w' : World) (h : PS w' p sv (r, st)) => GF 5 [⟨#[46]⟩] _ p sv (r, st) _ (h.keep (Ad _)) (Fl w' ⟨#[46]⟩ 9) (by simpa using hdot))
         have H3 := Lib.hid (fun (w' : World) (h : PS w' p sv (r, st)) => Dd ⟨6, t0.t, 0⟩ p sv (r, st) s' w' h hs)
         have hl := hP.lt
         clear hP hn hs hdot
         go_enter Tryz.func190, Tryz.ntmps190
         go_wp2_with (go_at_call 87; refine (H1.out).mono ?_; rintro e w7 ⟨rfl, hp7, hf7⟩; have HP7 := Lib.hid hp7; have HF7 := Lib.hid hf7; clear hp7 hf7)
         go_loopw [2] (fun s2 wr => s2 = .string t0.t ∧ w7 = wr) (fun _ _ => 0)
         case atStart => exact ⟨rfl, rfl⟩
         case round =>
          obtain ⟨rfl, rfl⟩ := hrel
          have lp := HP7.out.lt
          have H2' := Lib.hid (H2.out _ HP7.out)
          have hz1 : (w7.alloc (.cells #[.string ⟨#[46]⟩] 9)).heap.size = w7.heap.size + 1 := by simp
          go_wp2_with (first | (go_at_call 117; refine (H2'.out).mono ?_; rintro e w8 ⟨rfl, hb8⟩; have hP8 := HP7.out.keep (Aa (Ad _) (Ad _).size hb8); have hF8 := Fr.of_below (sv := sv) (Aa (Ad _) (Ad _).size hb8) HP7.out.lt; have HP8 := Lib.hid hP8; have HF8 := Lib.hid hF8; clear hP8 hF8 hb8))
          have hP9 := HP8.out.keep (Ad (.cells #[.int .u8 0, .string ⟨#[]⟩, .int .i64 0, .int .i64 0] 158))
          have HF9 := Lib.hid ((HF7.out.trans HF8.out).trans (Fr.of_below (sv := sv) (Ad (.cells #[.int .u8 0, .string ⟨#[]⟩, .int .i64 0, .int .i64 0] 158)) HP8.out.lt))
          have H3' := Lib.hid (H3.out _ hP9)
          clear hP9
          go_wp2_with (go_at_call 169; refine (H3'.out).mono ?_; rintro e wz ⟨rfl, sz, hpz, hfz⟩; have HPZ := Lib.hid hpz; have HFZ := Lib.hid hfz; clear hpz hfz)
          go_end0
          exact ⟨rfl, sz, HPZ.out, HF9.out.trans HFZ.out⟩
     · cases ht
theorem Lv : Tryz.prog.underlying 251 = some (.map 9 33) := by kernel_rfl
theorem G0 : Tryz.prog.underlying 9 = some .string := by kernel_rfl
theorem Ic (w : World) (o o' : Obj) : ({ (w.alloc o) with heap := (w.alloc o).heap.setIfInBounds w.heap.size o' } : World) = w.alloc o' := by
 show ({ w with heap := (w.heap.push o).setIfInBounds w.heap.size o' } : World) = { w with heap := w.heap.push o' }
 congr 1
 apply Array.ext'
 simp
theorem Lj (w : World) (k : ByteArray) (es : Array MapEntry) (r : Option (Nat × Value)) (h : Instr.findNow .string (.string k) es.toList 0 = some r) :
  (Instr.findKey 9 (.string k) es.toList).run Tryz.prog w = .ok r w := by
 simp only [Instr.findKey, Sem.run_bind, run_underlying G0, Result.andThen, h, Sem.run_pure]
theorem Nc (w : World) (k : ByteArray) (b : Bool) : (Instr.checkKey b 10000 9 (.string k)).run Tryz.prog w = .ok () w := by
 unfold Instr.checkKey
 simp only [Sem.run_bind, run_underlying G0, Result.andThen, Sem.run_pure]
theorem Ia (w : World) (es : Array MapEntry) (c : Nat) (k : ByteArray) (v : Value) (h : Instr.findNow .string (.string k) es.toList 0 = some none) :
  (Instr.mapUpdate 251 (.map (some w.heap.size)) (.string k) v).run Tryz.prog (w.alloc (.map es c)) = .ok () (w.alloc (.map (es.push { key := .string k, val := v, born := c }) (c + 1))) := by
 simp [Instr.mapUpdate, run_underlying Lv, MapKept.run_getObj_map (Ab w _), Nc, Lj _ _ _ _ h, MapKept.run_setObj_map _ (Ab w _), Result.andThen]
 exact Ic w _ _
section
variable (w : World) (v v1 v2 : Value)
theorem MG : (Instr.mapUpdate 251 (.map (some w.heap.size)) (.string ⟨#[78, 85, 76, 76]⟩) v).run Tryz.prog (w.alloc (.map #[] 0)) = .ok () (w.alloc (.map #[{ key := .string ⟨#[78, 85, 76, 76]⟩, val := v, born := 0 }] 1)) := by
 simpa using Ia w #[] 0 ⟨#[78, 85, 76, 76]⟩ v rfl
theorem MH : (Instr.mapUpdate 251 (.map (some w.heap.size)) (.string ⟨#[84, 82, 85, 69]⟩) v).run Tryz.prog (w.alloc (.map #[{ key := .string ⟨#[78, 85, 76, 76]⟩, val := v1, born := 0 }] 1)) = .ok () (w.alloc (.map #[{ key := .string ⟨#[78, 85, 76, 76]⟩, val := v1, born := 0 }, { key := .string ⟨#[84, 82, 85, 69]⟩, val := v, born := 1 }] 2)) := by
 simpa using Ia w #[{ key := .string ⟨#[78, 85, 76, 76]⟩, val := v1, born := 0 }] 1 ⟨#[84, 82, 85, 69]⟩ v (by first | rfl | kernel_rfl | simp [Instr.findNow, Instr.sameNow])
theorem MI : (Instr.mapUpdate 251 (.map (some w.heap.size)) (.string ⟨#[70, 65, 76, 83, 69]⟩) v).run Tryz.prog (w.alloc (.map #[{ key := .string ⟨#[78, 85, 76, 76]⟩, val := v1, born := 0 }, { key := .string ⟨#[84, 82, 85, 69]⟩, val := v2, born := 1 }] 2)) = .ok () (w.alloc (.map #[{ key := .string ⟨#[78, 85, 76, 76]⟩, val := v1, born := 0 }, { key := .string ⟨#[84, 82, 85, 69]⟩, val := v2, born := 1 }, { key := .string ⟨#[70, 65, 76, 83, 69]⟩, val := v, born := 2 }] 3)) := by
 simpa using Ia w #[{ key := .string ⟨#[78, 85, 76, 76]⟩, val := v1, born := 0 }, { key := .string ⟨#[84, 82, 85, 69]⟩, val := v2, born := 1 }] 2 ⟨#[70, 65, 76, 83, 69]⟩ v (by first | rfl | kernel_rfl | simp [Instr.findNow, Instr.sameNow])
end
/- parse.parser.primary: an int, a text, a name. -/
abbrev IU : Obj := .map #[{ key := .string ⟨#[78, 85, 76, 76]⟩, val := .int .u8 1, born := 0 }, { key := .string ⟨#[84, 82, 85, 69]⟩, val := .int .u8 2, born := 1 }, { key := .string ⟨#[70, 65, 76, 83, 69]⟩, val := .int .u8 3, born := 2 }] 3
set_option maxHeartbeats 2000000 in
set_option maxRecDepth 100000 in
theorem LN (d : Int) (p : Nat) (sv : Value) (t : TK) (r : List TK) (st : List ST) (s' : PSt) (w : World) (hP : PS w p sv (t :: r, st)) (n3 : A6 3 [] (t :: r) = true) (hput : Es ⟨4, E0, t.n⟩ (r, st) = some s') :
  Calls Tryz.prog 189 #[.pointer (some ⟨p, 0, none⟩), .int .i64 d] w (Ck p sv w s') := by
 have hb0 := Ad (w := w) IU
 have HF0 := Lib.hid (Fr.of_below (sv := sv) hb0 hP.lt)
 have hP0 := hP.keep hb0
 have hl := hP.lt
 have hmm := @run_makeMap Tryz.prog
 have i1 := MG
 have i2 := MH
 have i3 := MI
 have HN30 := BU 3 [] (.slice none 0 0) p sv (t :: r, st) _ hP0 (CO _)
 rw [n3] at HN30
 have HN3 := Lib.hid HN30
 clear HN30
 have HT := Lib.hid (D3 3 [] (.slice none 0 0) p sv t r st _ hP0 (CO _) n3)
 have HU := Lib.hid (fun (w' : World) (h : PS w' p sv (r, st)) => Dd ⟨4, E0, t.n⟩ p sv (r, st) s' w' h hput)
 clear hP hput hb0 hP0 n3
 go_enter Tryz.func189, Tryz.ntmps189
 go_upto_region 3 with (go_at_call 145; refine (HN3.out).mono ?_; rintro e w7 ⟨rfl, rfl⟩)
 clear i1 i2 i3 hmm
 go_wp2_with (first | (go_at_call 117; refine (HT.out).mono ?_; rintro e w7 ⟨rfl, hp7, hf7⟩; have HP7 := Lib.hid hp7; have HF7 := Lib.hid hf7; clear hp7 hf7) | (go_at_call 169; refine (HU.out _ ((HP7.out).keep (Ad _))).mono ?_; rintro e wz ⟨rfl, sz, hpz, hfz⟩; have HPZ := Lib.hid hpz; have HFZ := Lib.hid hfz; clear hpz hfz))
 go_end0
 exact ⟨rfl, sz, HPZ.out, ((HF0.out.trans HF7.out).trans (Fr.of_below (Ad _) HP7.out.lt)).trans HFZ.out⟩
set_option maxHeartbeats 2000000 in
set_option maxRecDepth 100000 in
theorem Lf (d : Int) (p : Nat) (sv : Value) (t : TK) (r : List TK) (st : List ST) (s' : PSt) (w : World) (hP : PS w p sv (t :: r, st)) (n3 : A6 3 [] (t :: r) = false) (n4 : A6 4 [] (t :: r) = true) (hput : Es ⟨5, t.t, 0⟩ (r, st) = some s') :
  Calls Tryz.prog 189 #[.pointer (some ⟨p, 0, none⟩), .int .i64 d] w (Ck p sv w s') := by
 have hb0 := Ad (w := w) IU
 have HF0 := Lib.hid (Fr.of_below (sv := sv) hb0 hP.lt)
 have hP0 := hP.keep hb0
 have hl := hP.lt
 have hmm := @run_makeMap Tryz.prog
 have i1 := MG
 have i2 := MH
 have i3 := MI
 have HN30 := BU 3 [] (.slice none 0 0) p sv (t :: r, st) _ hP0 (CO _)
 rw [n3] at HN30
 have HN3 := Lib.hid HN30
 clear HN30
 have HN40 := BU 4 [] (.slice none 0 0) p sv (t :: r, st) _ hP0 (CO _)
 rw [n4] at HN40
 have HN4 := Lib.hid HN40
 clear HN40
 have HT := Lib.hid (D3 4 [] (.slice none 0 0) p sv t r st _ hP0 (CO _) n4)
 have HU := Lib.hid (fun (w' : World) (h : PS w' p sv (r, st)) => Dd ⟨5, t.t, 0⟩ p sv (r, st) s' w' h hput)
 clear hP hput hb0 hP0 n3 n4
 go_enter Tryz.func189, Tryz.ntmps189
 go_upto_region 6 with (first | (go_at_call 145; with_reducible refine (HN3.out).mono ?_; rintro e w7 ⟨rfl, rfl⟩) | (go_at_call 145; with_reducible refine (HN4.out).mono ?_; rintro e w7 ⟨rfl, rfl⟩))
 clear i1 i2 i3 hmm
 go_wp2_with (first | (go_at_call 117; refine (HT.out).mono ?_; rintro e w7 ⟨rfl, hp7, hf7⟩; have HP7 := Lib.hid hp7; have HF7 := Lib.hid hf7; clear hp7 hf7) | (go_at_call 169; refine (HU.out _ ((HP7.out).keep (Ad _))).mono ?_; rintro e wz ⟨rfl, sz, hpz, hfz⟩; have HPZ := Lib.hid hpz; have HFZ := Lib.hid hfz; clear hpz hfz))
 go_end0
 exact ⟨rfl, sz, HPZ.out, ((HF0.out.trans HF7.out).trans (Fr.of_below (Ad _) HP7.out.lt)).trans HFZ.out⟩
set_option maxHeartbeats 2000000 in
set_option maxRecDepth 100000 in
theorem Lg (d : Int) (p : Nat) (sv : Value) (t : TK) (r : List TK) (st : List ST) (s' : PSt) (w : World) (hP : PS w p sv (t :: r, st)) (n3 : A6 3 [] (t :: r) = false) (n4 : A6 4 [] (t :: r) = false) (n1 : A6 1 [] (t :: r) = true) (hput : Ki (t :: r, st) = some s') :
  Calls Tryz.prog 189 #[.pointer (some ⟨p, 0, none⟩), .int .i64 d] w (Ck p sv w s') := by
 have hb0 := Ad (w := w) IU
 have HF0 := Lib.hid (Fr.of_below (sv := sv) hb0 hP.lt)
 have hP0 := hP.keep hb0
 have hl := hP.lt
 have hmm := @run_makeMap Tryz.prog
 have i1 := MG
 have i2 := MH
 have i3 := MI
 have HN30 := BU 3 [] (.slice none 0 0) p sv (t :: r, st) _ hP0 (CO _)
 rw [n3] at HN30
 have HN3 := Lib.hid HN30
 clear HN30
 have HN40 := BU 4 [] (.slice none 0 0) p sv (t :: r, st) _ hP0 (CO _)
 rw [n4] at HN40
 have HN4 := Lib.hid HN40
 clear HN40
 have HN10 := BU 1 [] (.slice none 0 0) p sv (t :: r, st) _ hP0 (CO _)
 rw [n1] at HN10
 have HN1 := Lib.hid HN10
 clear HN10
 have HU := Lib.hid (LM p sv (t :: r, st) s' _ hP0 hput)
 clear hP hput hb0 hP0 n3 n4 n1
 go_enter Tryz.func189, Tryz.ntmps189
 go_upto_region 9 with (first | (go_at_call 145; with_reducible refine (HN3.out).mono ?_; rintro e w7 ⟨rfl, rfl⟩) | (go_at_call 145; with_reducible refine (HN4.out).mono ?_; rintro e w7 ⟨rfl, rfl⟩) | (go_at_call 145; with_reducible refine (HN1.out).mono ?_; rintro e w7 ⟨rfl, rfl⟩))
 clear i1 i2 i3 hmm
 go_wp2_with (go_at_call 190; refine (HU.out).mono ?_; rintro e wz ⟨rfl, sz, hpz, hfz⟩; have HPZ := Lib.hid hpz; have HFZ := Lib.hid hfz; clear hpz hfz)
 go_end0
 exact ⟨rfl, sz, HPZ.out, HF0.out.trans HFZ.out⟩
theorem JY (d : Int) (p : Nat) (sv : Value) (s s' : PSt) (w : World) (hP : PS w p sv s) (hs : Dy d s = some s') :
   Calls Tryz.prog 189 #[.pointer (some ⟨p, 0, none⟩), .int .i64 d] w (Ck p sv w s') := by
 obtain ⟨ts, st⟩ := s
 cases ts with
 | nil => simp [Dy, A6] at hs
 | cons t r =>
   unfold Dy BW at hs
   simp only at hs
   cases n3 : A6 3 [] (t :: r) with
   | true =>
     simp only [n3, if_true] at hs
     exact LN d p sv t r st s' w hP n3 hs
   | false =>
     cases n4 : A6 4 [] (t :: r) with
     | true =>
       simp only [n3, n4, if_true, Bool.false_eq_true, if_false] at hs
       exact Lf d p sv t r st s' w hP n3 n4 hs
     | false =>
       cases n1 : A6 1 [] (t :: r) with
       | true =>
         simp only [n3, n4, n1, if_true, Bool.false_eq_true, if_false] at hs
         exact Lg d p sv t r st s' w hP n3 n4 n1 hs
       | false => simp [n3, n4, n1] at hs
/- parse.parser.ahead, Cp whatever stands behind the CN. -/
def ES (p : Nat) (fo : FuncId) (g : Int → PSt → Option PSt) : Prop := (∀ (args : Array Value) (w : World), (callFunc fo args).run Tryz.prog w = .ok (.enter fo args) w) ∧ ∀ (d : Int) (sv : Value) (s s' : PSt) (w : World), 0 ≤ d → d ≤ 100 → PS w p sv s → g d s = some s' → Calls Tryz.prog fo #[.pointer (some ⟨p, 0, none⟩), .int .i64 d] w (Ck p sv w s')
theorem Rs {d : Int} {s s' : PSt} (h : GC d s = some s') : d < 16 := by
 unfold GC at h
 split at h
 · assumption
 · cases h
set_option maxHeartbeats 2000000 in
set_option maxRecDepth 100000 in
theorem GK (k : Int) (text : ByteArray) (step : Int) (fo : FuncId) (other : Int → PSt → Option PSt) (p : Nat) (hst : 0 ≤ step ∧ step ≤ 255) (HO : ES p fo other) : ∀ (f : Nat) (d : Int) (sv : Value) (s s' : PSt) (w : World), 0 ≤ d → d ≤ 100 → PS w p sv s → Fe k text step other f d s = some s' →
   Calls Tryz.prog 181 #[.pointer (some ⟨p, 0, none⟩), .int .u8 k, .string text, .int .u8 step, .int .i64 d, .func (.func fo) #[.pointer (some ⟨p, 0, none⟩)] #[]] w (Ck p sv w s') := by
 intro f
 induction f with
 | zero => intro d sv s s' w _ _ _ h; cases h
 | succ f ih =>
   intro d sv s s' w hd0 hd1 hP hs
   have hb0 := Ad (w := w) (.cells #[.string text] 9)
   have HF0 := Lib.hid (Fr.of_below (sv := sv) hb0 hP.lt)
   have hP0 := hP.keep hb0
   have HN0 := BU k [text] _ p sv s _ hP0 (Fl w text 9)
   have hl := hP.lt
   rw [Fe] at hs
   have hcf := HO.1
   cases hn : A6 k [text] s.1 with
   | false =>
     rw [hn] at HN0 hs
     rw [if_neg (by simp)] at hs
     have HN := Lib.hid HN0
     have HC := Lib.hid (HO.2 d sv s s' _ hd0 hd1 hP0 hs)
     clear HN0 hs hP hP0 hb0 hn HO ih
     go_enter Tryz.func181, Tryz.ntmps181
     go_wp2_with (first | (go_at_call 145; refine (HN.out).mono ?_; rintro e w7 ⟨rfl, rfl⟩) | ((with_reducible refine (HC.out).mono ?_); rintro e wz ⟨rfl, sz, hpz, hfz⟩; have HPZ := Lib.hid hpz; have HFZ := Lib.hid hfz; clear hpz hfz))
     go_end0
     exact ⟨rfl, sz, HPZ.out, HF0.out.trans HFZ.out⟩
   | true =>
     rw [hn] at HN0 hs
     rw [if_pos rfl] at hs
     cases h1 : GC d s with
     | none => rw [h1] at hs; cases hs
     | some s1 =>
       rw [h1] at hs
       simp only at hs
       cases h2 : Fe k text step other f (d + 1) s1 with
       | none => rw [h2] at hs; cases hs
       | some s2 =>
         rw [h2] at hs
         simp only at hs
         have hlt := Rs h1
         have HN := Lib.hid HN0
         have HE := Lib.hid (PF d p sv s s1 _ hP0 h1 hd0)
         have HA := Lib.hid (fun (w' : World) (h : PS w' p sv s1) => ih (d + 1) sv s1 s2 w' (by omega) (by omega) h h2)
         have HU := Lib.hid (fun (w' : World) (sv2 : Value) (h : PS w' p sv2 s2) => Dd ⟨step, E0, 0⟩ p sv2 s2 s' w' h hs)
         have hw : IntKind.i64.wrap (d + 1) = d + 1 := IntWalk.i64_in _ (by omega)
         clear HN0 hs hP hP0 hb0 hn HO ih h1 h2 hd1
         go_enter Tryz.func181, Tryz.ntmps181
         go_wp2_with (first | (go_at_call 145; refine (HN.out).mono ?_; rintro e w7 ⟨rfl, rfl⟩) | (go_at_call 185; refine (HE.out).mono ?_; rintro e w7 ⟨rfl, hp7, hf7⟩; have HP7 := Lib.hid hp7; have HF7 := Lib.hid hf7; clear hp7 hf7) | (go_at_call 181; refine (HA.out _ HP7.out).mono ?_; rintro e w8 ⟨rfl, sv8, hp8, hf8⟩; have HP8 := Lib.hid hp8; have HF8 := Lib.hid hf8; clear hp8 hf8) | (go_at_call 169; refine (HU.out _ _ HP8.out).mono ?_; rintro e wz ⟨rfl, sz, hpz, hfz⟩; have HPZ := Lib.hid hpz; have HFZ := Lib.hid hfz; clear hpz hfz))
         go_end0
         exact ⟨rfl, sz, HPZ.out, ((HF0.out.trans HF7.out).trans HF8.out).trans HFZ.out⟩
/- parse.operators; parse.parser.row, Cp whatever stands between the operators. -/
abbrev Sz : Obj := .cells #[.string ⟨#[43]⟩, .string ⟨#[45]⟩, .string ⟨#[42]⟩, .string ⟨#[61]⟩, .string ⟨#[60, 62]⟩, .string ⟨#[60]⟩, .string ⟨#[60, 61]⟩, .string ⟨#[62]⟩, .string ⟨#[62, 61]⟩, .string ⟨#[65, 78, 68]⟩, .string ⟨#[79, 82]⟩] 9
theorem EM (w : World) : Calls Tryz.prog 171 #[] w fun e w' => ∃ g, e = .returned (.slice (some ⟨g, 0, none⟩) 11 11) ∧ (∀ j, j < ops.length → w'.cell? ⟨g, 0 + j, none⟩ = some (.string (ops.getD j ByteArray.empty))) ∧ Below w.heap.size w w' := by
 have h := Ab w Sz
 have hc : ∀ j, j < ops.length → (w.alloc Sz).cell? ⟨w.heap.size, 0 + j, none⟩ = some (.string (ops.getD j ByteArray.empty)) := by
  intro i hi
  rw [Nat.zero_add]
  unfold World.cell?
  rw [h]
  have hi2 : i < 11 := hi
  obtain rfl | rfl | rfl | rfl | rfl | rfl | rfl | rfl | rfl | rfl | rfl : i = 0 ∨ i = 1 ∨ i = 2 ∨ i = 3 ∨ i = 4 ∨ i = 5 ∨ i = 6 ∨ i = 7 ∨ i = 8 ∨ i = 9 ∨ i = 10 := by omega
  all_goals rfl
 have HC := Lib.hid hc
 clear h hc
 go_enter Tryz.func171, Tryz.ntmps171
 go_wp2
 go_ret
 exact ⟨w.heap.size, rfl, HC.out, Ad _⟩
theorem GP (x : ByteArray) : ∀ (l : List ByteArray) (i : Nat), Lib.idxFromS l x i < (i : Int) + l.length
 | [], i => by simp [Lib.idxFromS]; omega
 | z :: r, i => by
   unfold Lib.idxFromS
   split
   · simp; omega
   · have := GP x r (i + 1)
     simp only [List.length_cons]
     push_cast at this ⊢
     omega
theorem Mj {t : ByteArray} : Lib.idxOfS ops t < 11 := by
 have h := GP t ops 0
 have e : ((0 : Nat) : Int) + ops.length = 11 := rfl
 rw [e] at h
 exact h
theorem GQ (g : Nat) (t : ByteArray) (w : World) (hc : ∀ j, j < ops.length → w.cell? ⟨g, 0 + j, none⟩ = some (.string (ops.getD j ByteArray.empty))) :
  Calls Tryz.prog 170 #[.slice (some ⟨g, 0, none⟩) 11 11, .string t] w fun e w' => e = .returned (.int .i64 (Lib.idxOfS ops t)) ∧ w' = w :=
 Tryz.slices_Index_string g 0 11 11 ops t w (by decide) (by omega) hc
theorem PS.own_ne {w : World} {p : Nat} {sv : Value} {s : PSt} (h : PS w p sv s) : sv.ownBlock ≠ some w.heap.size := by
 obtain ⟨_, _, _, _, _, hO⟩ := h
 intro e
 have := (hO.lt _ e).2
 omega
def OpAt (p : Nat) (sv : Value) (s : PSt) (g : Nat) (t : ByteArray) (W w' : World) : Prop := PS w' p sv s ∧ Fr p sv W sv w' ∧ w'.cell? ⟨g, 1, none⟩ = some (.string t)
theorem OpAt.keep {p : Nat} {sv : Value} {s : PSt} {g : Nat} {t : ByteArray} {W w w' : World} (h : OpAt p sv s g t W w) (hb : Below w.heap.size w w') : OpAt p sv s g t W w' :=
 ⟨h.1.keep hb, h.2.1.trans (Fr.of_below hb h.1.lt), Ac hb h.2.2⟩
set_option maxHeartbeats 4000000 in
set_option maxRecDepth 100000 in
theorem EN (k : Int) (texts : List ByteArray) (fo : FuncId) (one : Int → PSt → Option PSt) (p : Nat) (HO : ES p fo one) (f : Nat) (d : Int) (tv sv : Value) (s s' : PSt) (w : World) (hd0 : 0 ≤ d) (hd1 : d ≤ 100) (hP : PS w p sv s) (hT : TxtAt w p sv tv texts) (hs : Je k texts one f d s = some s') :
   Calls Tryz.prog 146 #[.pointer (some ⟨p, 0, none⟩), .int .u8 k, .func (.func fo) #[.pointer (some ⟨p, 0, none⟩)] #[], .int .i64 d, tv] w (Ck p sv w s') := by
 unfold Je at hs
 cases h1 : one d s with
 | none => rw [h1] at hs; cases hs
 | some s1 =>
   rw [h1] at hs
   simp only at hs
   have HC := Lib.hid (HO.2 d sv s s1 w hd0 hd1 hP h1)
   have hcf := HO.1
   have HH := Lib.hid HO
   have HT := Lib.hid hT
   have HS := Lib.hid hs
   clear hs h1 hT hP HO
   obtain ⟨ta, tc, rfl, _⟩ := HT.out
   go_enter Tryz.func146, Tryz.ntmps146
   go_wp2_with ((with_reducible refine (HC.out).mono ?_); rintro e w1 ⟨rfl, s1v, hp1, hf1⟩; have HP1 := Lib.hid hp1; have HF1 := Lib.hid hf1; clear hp1 hf1)
   go_loopg [10] f (fun kk s10 wr => ∃ (rv : Value) (sx : PSt), Hid (Kj k texts one kk d sx = some s') ∧ PS wr p rv sx ∧ Fr p sv w rv wr)
   case atStart => exact ⟨s1v, s1, HS, HP1.out, HF1.out⟩
   case round =>
    obtain ⟨rv, sx, HR, hp, hf⟩ := hrel
    have hr := HR.out
    cases gk with
    | zero => cases hr
    | succ kk =>
      rw [Kj] at hr
      have HP := Lib.hid hp
      have HF := Lib.hid hf
      have HTX := Lib.hid (HT.out.fr hf).row
      clear hp hf HR HP1 HF1 HC HS
      cases ht : BW k texts sx with
      | none =>
        rw [ht] at hr
        simp only [Option.some.injEq] at hr
        obtain rfl := hr
        have hn : A6 k texts sx.1 = false := by
          cases hn : A6 k texts sx.1 with
          | false => rfl
          | true =>
            unfold BW at ht
            rw [hn, if_pos rfl] at ht
            cases hsx : sx.1 with
            | nil => rw [hsx] at hn; simp [A6] at hn
            | cons a b => rw [hsx] at ht; cases ht
        have HTK := Lib.hid (GF k texts _ p rv sx wr HP.out HTX.out hn)
        clear ht hn
        have lp := HP.out.lt
        go_wp2_with (go_at_call 117; refine (HTK.out).mono ?_; rintro e w8 ⟨rfl, hb8⟩; have HB8 := Lib.hid hb8; clear hb8)
        go_end0
        have hP8 := HP.out.keep HB8.out
        exact ⟨rfl, rv, hP8.keep (Ad _), (HF.out.trans (Fr.of_below HB8.out HP.out.lt)).trans (Fr.of_below (Ad _) hP8.lt)⟩
      | some v =>
        obtain ⟨t, s2⟩ := v
        rw [ht] at hr
        simp only at hr
        split at hr
        · rename_i hi0
          cases h3 : one d s2 with
          | none => rw [h3] at hr; cases hr
          | some s3 =>
            rw [h3] at hr
            simp only at hr
            cases h4 : Es (Eq t.t) s3 with
            | none => rw [h4] at hr; cases hr
            | some s4 =>
              rw [h4] at hr
              simp only at hr
              obtain ⟨ts, st⟩ := sx
              unfold BW at ht
              simp only at ht
              split at ht
              · rename_i hn
                cases ts with
                | nil => cases ht
                | cons t0 r =>
                  simp only [Option.some.injEq, Prod.mk.injEq] at ht
                  obtain ⟨rfl, rfl⟩ := ht
                  have HTK := Lib.hid (D3 k texts _ p rv t0 r st wr HP.out HTX.out hn)
                  have HONE := Lib.hid (fun (w' : World) (h : PS w' p rv (r, st)) => HH.out.2 d rv (r, st) s3 w' hd0 hd1 h h3)
                  have hlt := Mj (t := t0.t)
                  have HIX := Lib.hid (fun (w' : World) (g : Nat) hc => GQ g t0.t w' hc)
                  have HPUT := Lib.hid (fun (w' : World) (v' : Value) (h : PS w' p v' s3) => Dd (Eq t0.t) p v' s3 s4 w' h h4)
                  unfold Eq at HPUT
                  simp only at HPUT
                  have HR2 := Lib.hid hr
                  generalize Lib.idxOfS ops t0.t = z at *
                  have hz1 : IntKind.u8.wrap z = z := by simp [IntKind.wrap, IntKind.bits, IntKind.signed]; omega
                  have hz2 : IntKind.u8.wrap (12 + z) = 12 + z := by simp [IntKind.wrap, IntKind.bits, IntKind.signed]; omega
                  clear hn h3 h4 hr HTX
                  go_upto_region 4 with (first | (go_at_call 117; refine (HTK.out).mono ?_; rintro e w7 ⟨rfl, hp7, hf7⟩; have HP7 := Lib.hid hp7; have HF7 := Lib.hid hf7; clear hp7 hf7) | ((with_reducible refine (HONE.out _ ((HP7.out).keep (Ad _))).mono ?_); rintro e w8 ⟨rfl, sv8, hp8, hf8⟩; have HP8 := Lib.hid hp8; have HF8 := Lib.hid hf8; clear hp8 hf8))
                  have lp7 := HP7.out.lt
                  have hne7 : rv.ownBlock ≠ some w7.heap.size := HP7.out.own_ne
                  have hk8 := (HF8.out.keep w7.heap.size (by simp) (by omega) hne7).trans (Ab w7 (.cells #[.int .u8 t0.k, .string t0.t, .int .i64 t0.n, .int .i64 t0.a] 158))
                  have hne8 : sv8.ownBlock ≠ some w7.heap.size := fun e => by
                   rcases HF8.out.own _ e with h | h
                   · exact hne7 h
                   · simp at h; omega
                  have HSD : Hid (w8.drew.cell? ⟨w7.heap.size, 1, none⟩ = some (.string t0.t)) := Lib.hid (AH hk8).2.1
                  have HPD : Hid (PS w8.drew p sv8 s3 ∧ Fr p sv8 w8 sv8 w8.drew) := Lib.hid (HP8.out.frame (Below.refl _ _).drew)
                  have hs8 := HF8.out.size
                  have l78 : w7.heap.size < w8.heap.size := by simp at hs8; omega
                  have HSIM : Hid (∀ w' : World, Below w8.drew.heap.size w8.drew w' → w'.cell? ⟨w7.heap.size, 1, none⟩ = some (.string t0.t)) := Lib.hid (fun w' hb => Ac hb HSD.out)
                  have HFRM : Hid (∀ (w' wz : World) (sz : Value), Below w8.drew.heap.size w8.drew w' → Fr p sv8 w' sz wz → wz.cell? ⟨w7.heap.size, 1, none⟩ = some (.string t0.t)) := Lib.hid (fun w' wz sz hb hf => (World.cell?_of_block (a := ⟨w7.heap.size, 1, none⟩) (hf.keep w7.heap.size (Nat.lt_of_lt_of_le l78 hb.size) (by omega) hne8)).trans (Ac hb HSD.out))
                  clear hk8 hs8 hne7 hne8
                  go_region_held3 (fun w' => w'.cell? ⟨w7.heap.size, 1, none⟩ = some (.string t0.t))
                   (first | (with_reducible exact HSD.out) | (with_reducible exact HS9.out) | (with_reducible exact HSZ.out))
                   (first | (go_at_call 171; refine (EM _).mono ?_; rintro e w9 ⟨g, rfl, hc9, hb9⟩; have HB9 := Lib.hid hb9; have HS9 : Hid (w9.cell? ⟨w7.heap.size, 1, none⟩ = some (.string t0.t)) := Lib.hid (HSIM.out _ hb9); have HC9 := Lib.hid hc9; clear hc9 hb9) | (go_at_call 170; refine (HIX.out _ _ HC9.out).mono ?_; rintro e w10 ⟨rfl, rfl⟩) | (go_at_call 169; refine (HPUT.out _ _ (HPD.out.1.keep HB9.out)).mono ?_; rintro e wz ⟨rfl, sz, hpz, hfz⟩; have HSZ : Hid (wz.cell? ⟨w7.heap.size, 1, none⟩ = some (.string t0.t)) := Lib.hid (HFRM.out _ _ _ HB9.out hfz); have HPZ := Lib.hid hpz; have HFZ := Lib.hid hfz; clear hpz hfz))
                  all_goals
                   go_wp2_with fail
                   go_roundg kk
                   case measure => omega
                   case rel => exact ⟨sz, s4, HR2, HPZ.out, ((((HF.out.trans HF7.out).trans (Fr.of_below (Ad _) lp7)).trans HF8.out).trans (HPD.out.2.trans (Fr.of_below HB9.out HPD.out.1.lt))).trans HFZ.out⟩
              · cases ht
        · cases hr
end Go.Proofs.YtbemgcjckchdjaaGreatDoor
