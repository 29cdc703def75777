import Derived.Test.YtbemgcjckchdjaaGreatDoorLVd
import Derived.Laws.IdiomCopy
import Derived.Test.YtbemgcjckchdjaaGreatDoorLVi
import Derived.Deep.RegionWith
import Derived.Deep.RegionHeld3
/- Rows of values cell by cell; slices.Clone of values and of fields. -/
namespace Go.Proofs.YtbemgcjckchdjaaGreatDoor
open Go.RowKit
set_option linter.unusedSimpArgs false
set_option linter.unusedVariables false
theorem AS (b o j : Nat) : (⟨b, o, none⟩ : Addr).add j = ⟨b, o + j, none⟩ := by
 unfold Addr.add
 split
 · subst j; rfl
 · rfl
theorem Kf {W w' : World} {p : Addr} {v : Value} (hb : Below W.heap.size W w') (h : W.cell? p = some v) : w'.cell? p = some v := by
 have hlt : p.block < W.heap.size := by
  rcases Nat.lt_or_ge p.block W.heap.size with h' | h'
  · exact h'
  · simp [World.cell?, Array.getElem?_eq_none h'] at h
 exact (hb.cell (p := p) hlt).trans h
theorem F4 (w : World) (T : TypeId) (sz : Nat) : (w.alloc (.cells #[] T)).ownsRow w.heap.size T sz (.slice (some ⟨w.heap.size, 0, none⟩) 0 0) 0 [] :=
 ⟨by simp, Or.inr ⟨w.heap.size, 0, #[], rfl, Nat.le_refl _, Ab w _, Nat.le_refl _, by unfold maxLen; omega, by simp, by simp⟩⟩
theorem Js {w : World} {b o : Nat} {xs : List Value} (h : ∀ j u, xs[j]? = some u → w.cell? ⟨b, o + j, none⟩ = some u) : ∀ j u, xs[j]? = some u → w.cell? ((⟨b, o, none⟩ : Addr).add j) = some u := fun j u e => by rw [AS]; exact h j u e
def ElV (w : World) (lo hi : Nat) (t : VT) (b o : Nat) : Prop := ∃ v0 v1 v2 v3 v4 v5, w.cell? ⟨b, o, none⟩ = some v0 ∧ w.cell? ⟨b, o + 1, none⟩ = some v1 ∧ w.cell? ⟨b, o + 2, none⟩ = some v2 ∧ w.cell? ⟨b, o + 3, none⟩ = some v3 ∧ w.cell? ⟨b, o + 4, none⟩ = some v4 ∧ w.cell? ⟨b, o + 5, none⟩ = some v5 ∧ RV w lo hi t [v0, v1, v2, v3, v4, v5]
theorem RL.el {w : World} {lo hi : Nat} (l : VL) (b o i : Nat) (t : VT) (h : RL w lo hi l b o) (e : l.get? i = some t) : ElV w lo hi t b (o + i * 6) := RL.at l b o i t h e
theorem RL.of_el {w : World} {lo hi : Nat} : ∀ (l : VL) (b o : Nat), (∀ i t, l.get? i = some t → ElV w lo hi t b (o + i * 6)) → RL w lo hi l b o
 | .nil, _, _, _ => by unfold RL; trivial
 | .cons t r, b, o, h => by
   unfold RL
   refine ⟨by have := h 0 t rfl; simpa [ElV] using this, RL.of_el r b (o + 6) fun i t' e => ?_⟩
   have := h (i + 1) t' e
   rwa [show o + (i + 1) * 6 = o + 6 + i * 6 by omega] at this
theorem RL.cells {w : World} {lo hi : Nat} : ∀ (l : VL) (b o : Nat), RL w lo hi l b o → ∃ xs : List Value, xs.length = l.len * 6 ∧ (∀ j u, xs[j]? = some u → w.cell? ⟨b, o + j, none⟩ = some u) ∧ ∀ u ∈ xs, u.oneCell' = true
 | .nil, _, _, _ => ⟨[], by simp [VL.len], by simp, by simp⟩
 | .cons t r, b, o, h => by
   unfold RL at h
   obtain ⟨⟨v0, v1, v2, v3, v4, v5, e0, e1, e2, e3, e4, e5, hv⟩, hr⟩ := h
   obtain ⟨xs, h1, h2, h3⟩ := RL.cells r b (o + 6) hr
   obtain ⟨k, bb, n, s', a1, l1, c1, a2, l2, c2, rfl, rfl, rfl, rfl, rfl, rfl⟩ := RV.open6 hv
   refine ⟨[.int .u8 k, .bool bb, .int .i64 n, .string s', .slice a1 l1 c1, .slice a2 l2 c2] ++ xs, by simp only [List.length_append, h1, VL.len, List.length_cons, List.length_nil]; omega, fun j u e => ?_, fun u hu => ?_⟩
   · by_cases hj : j < 6
     · obtain rfl | rfl | rfl | rfl | rfl | rfl : j = 0 ∨ j = 1 ∨ j = 2 ∨ j = 3 ∨ j = 4 ∨ j = 5 := by omega
       all_goals
        simp only [List.cons_append, List.getElem?_cons_zero, List.getElem?_cons_succ, Option.some.injEq] at e
        subst e
        assumption
     · have := h2 (j - 6) u (by rw [← e, List.getElem?_append_right (by simp; omega)]; rfl)
       rwa [show o + 6 + (j - 6) = o + j by omega] at this
   · simp only [List.cons_append, List.nil_append, List.mem_cons] at hu
     rcases hu with rfl | rfl | rfl | rfl | rfl | rfl | hu
     all_goals first | rfl | exact h3 u hu
def ElF (w : World) (lo hi : Nat) (s : ByteArray) (t : VT) (b o : Nat) : Prop := w.cell? ⟨b, o, none⟩ = some (.string s) ∧ s.size ≤ LIM ∧ ∃ v0 v1 v2 v3 v4 v5, w.cell? ⟨b, o + 1, none⟩ = some v0 ∧ w.cell? ⟨b, o + 2, none⟩ = some v1 ∧ w.cell? ⟨b, o + 3, none⟩ = some v2 ∧ w.cell? ⟨b, o + 4, none⟩ = some v3 ∧ w.cell? ⟨b, o + 5, none⟩ = some v4 ∧ w.cell? ⟨b, o + 6, none⟩ = some v5 ∧ RV w lo hi t [v0, v1, v2, v3, v4, v5]
theorem RF.el {w : World} {lo hi : Nat} (l : FL) (b o i : Nat) (s : ByteArray) (t : VT) (h : RF w lo hi l b o) (e : l.get? i = some (s, t)) : ElF w lo hi s t b (o + i * 7) := RF.at l b o i s t h e
theorem RF.of_el {w : World} {lo hi : Nat} : ∀ (l : FL) (b o : Nat), (∀ i s t, l.get? i = some (s, t) → ElF w lo hi s t b (o + i * 7)) → RF w lo hi l b o
 | .nil, _, _, _ => by unfold RF; trivial
 | .cons s t r, b, o, h => by
   unfold RF
   refine ⟨by have := h 0 s t rfl; simpa [ElF] using this, RF.of_el r b (o + 7) fun i s t' e => ?_⟩
   have := h (i + 1) s t' e
   rwa [show o + (i + 1) * 7 = o + 7 + i * 7 by omega] at this
theorem RF.cells {w : World} {lo hi : Nat} : ∀ (l : FL) (b o : Nat), RF w lo hi l b o → ∃ xs : List Value, xs.length = l.len * 7 ∧ (∀ j u, xs[j]? = some u → w.cell? ⟨b, o + j, none⟩ = some u) ∧ ∀ u ∈ xs, u.oneCell' = true
 | .nil, _, _, _ => ⟨[], by simp [FL.len], by simp, by simp⟩
 | .cons s t r, b, o, h => by
   unfold RF at h
   obtain ⟨⟨en, hsn, v0, v1, v2, v3, v4, v5, e0, e1, e2, e3, e4, e5, hv⟩, hr⟩ := h
   obtain ⟨xs, h1, h2, h3⟩ := RF.cells r b (o + 7) hr
   obtain ⟨k, bb, n, s', a1, l1, c1, a2, l2, c2, rfl, rfl, rfl, rfl, rfl, rfl⟩ := RV.open6 hv
   refine ⟨[.string s, .int .u8 k, .bool bb, .int .i64 n, .string s', .slice a1 l1 c1, .slice a2 l2 c2] ++ xs, by simp only [List.length_append, h1, FL.len, List.length_cons, List.length_nil]; omega, fun j u e => ?_, fun u hu => ?_⟩
   · by_cases hj : j < 7
     · obtain rfl | rfl | rfl | rfl | rfl | rfl | rfl : j = 0 ∨ j = 1 ∨ j = 2 ∨ j = 3 ∨ j = 4 ∨ j = 5 ∨ j = 6 := by omega
       all_goals
        simp only [List.cons_append, List.getElem?_cons_zero, List.getElem?_cons_succ, Option.some.injEq] at e
        subst e
        assumption
     · have := h2 (j - 7) u (by rw [← e, List.getElem?_append_right (by simp; omega)]; rfl)
       rwa [show o + 7 + (j - 7) = o + j by omega] at this
   · simp only [List.cons_append, List.nil_append, List.mem_cons] at hu
     rcases hu with rfl | rfl | rfl | rfl | rfl | rfl | rfl | hu
     all_goals first | rfl | exact h3 u hu
theorem ElV.keep {w w' : World} {lo hi lo' hi' : Nat} (t : VT) {b o b' o' : Nat} (hc : ∀ j, j < 6 → w'.cell? ⟨b', o' + j, none⟩ = w.cell? ⟨b, o + j, none⟩) (hv' : ∀ cs, RV w lo hi t cs → RV w' lo' hi' t cs) (h : ElV w lo hi t b o) : ElV w' lo' hi' t b' o' := by
 obtain ⟨v0, v1, v2, v3, v4, v5, e0, e1, e2, e3, e4, e5, hv⟩ := h
 exact ⟨v0, v1, v2, v3, v4, v5, (by have := hc 0 (by omega); simpa using this.trans e0), (hc 1 (by omega)).trans e1, (hc 2 (by omega)).trans e2, (hc 3 (by omega)).trans e3, (hc 4 (by omega)).trans e4, (hc 5 (by omega)).trans e5, hv' _ hv⟩
theorem ElF.keep {w w' : World} {lo hi lo' hi' : Nat} (s : ByteArray) (t : VT) {b o b' o' : Nat} (hc : ∀ j, j < 7 → w'.cell? ⟨b', o' + j, none⟩ = w.cell? ⟨b, o + j, none⟩) (hv' : ∀ cs, RV w lo hi t cs → RV w' lo' hi' t cs) (h : ElF w lo hi s t b o) : ElF w' lo' hi' s t b' o' := by
 obtain ⟨en, hsn, v0, v1, v2, v3, v4, v5, e0, e1, e2, e3, e4, e5, hv⟩ := h
 exact ⟨(by have := hc 0 (by omega); simpa using this.trans en), hsn, v0, v1, v2, v3, v4, v5, (hc 1 (by omega)).trans e0, (hc 2 (by omega)).trans e1, (hc 3 (by omega)).trans e2, (hc 4 (by omega)).trans e3, (hc 5 (by omega)).trans e4, (hc 6 (by omega)).trans e5, hv' _ hv⟩
theorem Tryz.infoV : (Tryz.prog.info? 27).map (fun i => (i.zero, i.size, i.bytes)) = some (some (.agg #[.int .u8 0, .bool false, .int .i64 0, .string ⟨#[]⟩, .slice none 0 0, .slice none 0 0]), 6, 80) := by kernel_rfl
set_option maxHeartbeats 1000000 in
set_option maxRecDepth 100000 in
theorem QX (w : World) (lo hi : Nat) (l : VL) (a : Option Addr) (c : Nat) (hl : l.len ≤ LIM) (hhi : hi ≤ w.heap.size)
   (hr : l.len = 0 ∨ ∃ b o, a = some ⟨b, o, none⟩ ∧ lo ≤ b ∧ b < hi ∧ RL w lo hi l b o) :
   Calls Tryz.prog 101 #[.slice a l.len c] w fun x w' => ∃ v xs, x = .returned v ∧ w'.ownsRow w.heap.size 27 6 v l.len xs ∧ (∀ b o, a = some ⟨b, o, none⟩ → ∀ j, j < l.len * 6 → xs[j]? = w.cell? ⟨b, o + j, none⟩) ∧ Below w.heap.size w w' ∧ ∀ g, v.ownBlock = some g → w.heap.size ≤ g ∧ g < w'.heap.size := by
 unfold LIM at hl
 cases a with
 | none =>
   have h0 : l.len = 0 := by rcases hr with h0 | ⟨b, o, e, _⟩; exact h0; cases e
   rw [h0]
   clear hr h0
   have hnil : ∀ w : World, (binOp .eql 24 (.slice none 0 c) (.slice none 0 0)).run Tryz.prog w = .ok (.bool true) w := fun w => Lib.run_eql_slice_nil w 24 27 none 0 c 0 0 Tryz.underlying24
   go_enter Tryz.func101, Tryz.ntmps101
   go_wp2
   go_ret
   exact ⟨.slice none 0 0, [], rfl, ⟨rfl, Or.inl ⟨rfl, rfl⟩⟩, by simp, Below.refl _ _, by simp [Value.ownBlock]⟩
 | some ad =>
   obtain ⟨xs, hx1, hx2, hx3⟩ : ∃ xs : List Value, xs.length = l.len * 6 ∧ (∀ j u, xs[j]? = some u → w.cell? (ad.add j) = some u) ∧ ∀ u ∈ xs, u.oneCell' = true := by
     rcases hr with h0 | ⟨b, o, e, _, _, hR⟩
     · exact ⟨[], by simp [h0], by simp, by simp⟩
     · cases e
       obtain ⟨xs, h1, h2, h3⟩ := RL.cells l b o hR
       exact ⟨xs, h1, Js h2, h3⟩
   have hcells : ∀ b o, some ad = some ⟨b, o, none⟩ → ∀ j, j < l.len * 6 → xs[j]? = w.cell? ⟨b, o + j, none⟩ := by
     intro b o e j hj
     cases e
     have := hx2 j xs[j] (List.getElem?_eq_getElem (by omega))
     rw [List.getElem?_eq_getElem (by omega)]
     rw [AS] at this; exact this.symm
   obtain ⟨i0, hi0, hz0, hz1, hz2⟩ := info_parts Tryz.infoV
   have HX := Lib.hid hx1; have HC := Lib.hid hcells; have H2 := Lib.hid hx2; have H3 := Lib.hid hx3
   clear hr hx1 hcells hx2 hx3
   have hnil : ∀ w : World, (binOp .eql 24 (.slice (some ad) l.len c) (.slice none 0 0)).run Tryz.prog w = .ok (.bool false) w := fun w => Lib.run_eql_slice_nil w 24 27 (some ad) l.len c 0 0 Tryz.underlying24
   go_enter Tryz.func101, Tryz.ntmps101
   go_wp2_with (at_builtin; refine wpList_append_own _ rfl _ _ 24 rfl w.heap.size 27 i0 (.agg #[.int .u8 0, .bool false, .int .i64 0, .string ⟨#[]⟩, .slice none 0 0, .slice none 0 0]) 6 80 Tryz.underlying24 hi0 hz0 hz1 hz2 rfl (by decide) _ 0 [] rfl (F4 w 27 6) ad l.len c xs rfl HX.out (fun j u e => Kf ((Below.refl w.heap.size w).alloc (Nat.le_refl _) _) (H2.out j u e)) H3.out (by unfold maxLen; omega) (by omega) (by simp) ?_; intro v' w1 hown hgrow hiff)
   go_ret
   have hbw : Below w.heap.size w w1 := (((Below.refl w.heap.size w).alloc (Nat.le_refl _) (.cells #[] 27))).grown hgrow (by simp) (fun k hk => by cases hk; exact Nat.le_refl _)
   refine ⟨v', xs, rfl, by simpa using hown, HC.out, hbw, ?_⟩
   intro g hg
   simp only [Nat.zero_add, List.nil_append] at hown
   rcases hown.2 with ⟨rfl, _⟩ | ⟨g', cap, cur, rfl, hge, hh, _⟩
   · simp [Value.ownBlock] at hg
   · simp [Value.ownBlock] at hg
     subst hg
     exact ⟨hge, lt_of_block hh⟩
theorem Tryz.infoF : (Tryz.prog.info? 53).map (fun i => (i.zero, i.size, i.bytes)) = some (some (.agg #[.string ⟨#[]⟩, .int .u8 0, .bool false, .int .i64 0, .string ⟨#[]⟩, .slice none 0 0, .slice none 0 0]), 7, 96) := by kernel_rfl
set_option maxHeartbeats 1000000 in
set_option maxRecDepth 100000 in
theorem QW (w : World) (lo hi : Nat) (l : FL) (a : Option Addr) (c : Nat) (hl : l.len ≤ LIM) (hhi : hi ≤ w.heap.size)
   (hr : l.len = 0 ∨ ∃ b o, a = some ⟨b, o, none⟩ ∧ lo ≤ b ∧ b < hi ∧ RF w lo hi l b o) :
   Calls Tryz.prog 102 #[.slice a l.len c] w fun x w' => ∃ v xs, x = .returned v ∧ w'.ownsRow w.heap.size 53 7 v l.len xs ∧ (∀ b o, a = some ⟨b, o, none⟩ → ∀ j, j < l.len * 7 → xs[j]? = w.cell? ⟨b, o + j, none⟩) ∧ Below w.heap.size w w' ∧ ∀ g, v.ownBlock = some g → w.heap.size ≤ g ∧ g < w'.heap.size := by
 unfold LIM at hl
 cases a with
 | none =>
   have h0 : l.len = 0 := by rcases hr with h0 | ⟨b, o, e, _⟩; exact h0; cases e
   rw [h0]
   clear hr h0
   have hnil : ∀ w : World, (binOp .eql 25 (.slice none 0 c) (.slice none 0 0)).run Tryz.prog w = .ok (.bool true) w := fun w => Lib.run_eql_slice_nil w 25 53 none 0 c 0 0 Tryz.underlying25
   go_enter Tryz.func102, Tryz.ntmps102
   go_wp2
   go_ret
   exact ⟨.slice none 0 0, [], rfl, ⟨rfl, Or.inl ⟨rfl, rfl⟩⟩, by simp, Below.refl _ _, by simp [Value.ownBlock]⟩
 | some ad =>
   obtain ⟨xs, hx1, hx2, hx3⟩ : ∃ xs : List Value, xs.length = l.len * 7 ∧ (∀ j u, xs[j]? = some u → w.cell? (ad.add j) = some u) ∧ ∀ u ∈ xs, u.oneCell' = true := by
     rcases hr with h0 | ⟨b, o, e, _, _, hR⟩
     · exact ⟨[], by simp [h0], by simp, by simp⟩
     · cases e
       obtain ⟨xs, h1, h2, h3⟩ := RF.cells l b o hR
       exact ⟨xs, h1, Js h2, h3⟩
   have hcells : ∀ b o, some ad = some ⟨b, o, none⟩ → ∀ j, j < l.len * 7 → xs[j]? = w.cell? ⟨b, o + j, none⟩ := by
     intro b o e j hj
     cases e
     have := hx2 j xs[j] (List.getElem?_eq_getElem (by omega))
     rw [List.getElem?_eq_getElem (by omega)]
     rw [AS] at this; exact this.symm
   obtain ⟨i0, hi0, hz0, hz1, hz2⟩ := info_parts Tryz.infoF
   have HX := Lib.hid hx1; have HC := Lib.hid hcells; have H2 := Lib.hid hx2; have H3 := Lib.hid hx3
   clear hr hx1 hcells hx2 hx3
   have hnil : ∀ w : World, (binOp .eql 25 (.slice (some ad) l.len c) (.slice none 0 0)).run Tryz.prog w = .ok (.bool false) w := fun w => Lib.run_eql_slice_nil w 25 53 (some ad) l.len c 0 0 Tryz.underlying25
   go_enter Tryz.func102, Tryz.ntmps102
   go_wp2_with (at_builtin; refine wpList_append_own _ rfl _ _ 25 rfl w.heap.size 53 i0 (.agg #[.string ⟨#[]⟩, .int .u8 0, .bool false, .int .i64 0, .string ⟨#[]⟩, .slice none 0 0, .slice none 0 0]) 7 96 Tryz.underlying25 hi0 hz0 hz1 hz2 rfl (by decide) _ 0 [] rfl (F4 w 53 7) ad l.len c xs rfl HX.out (fun j u e => Kf ((Below.refl w.heap.size w).alloc (Nat.le_refl _) _) (H2.out j u e)) H3.out (by unfold maxLen; omega) (by omega) (by simp) ?_; intro v' w1 hown hgrow hiff)
   go_ret
   have hbw : Below w.heap.size w w1 := (((Below.refl w.heap.size w).alloc (Nat.le_refl _) (.cells #[] 53))).grown hgrow (by simp) (fun k hk => by cases hk; exact Nat.le_refl _)
   refine ⟨v', xs, rfl, by simpa using hown, HC.out, hbw, ?_⟩
   intro g hg
   simp only [Nat.zero_add, List.nil_append] at hown
   rcases hown.2 with ⟨rfl, _⟩ | ⟨g', cap, cur, rfl, hge, hh, _⟩
   · simp [Value.ownBlock] at hg
   · simp [Value.ownBlock] at hg
     subst hg
     exact ⟨hge, lt_of_block hh⟩
/- Rows in the midst of being made own. No function. -/
def Mid (lo hi : Nat) (w w' : World) : Prop := ∀ b o, lo ≤ b → b < hi → w'.cell? ⟨b, o, none⟩ = w.cell? ⟨b, o, none⟩
mutual
theorem RV.mid {w w' : World} {lo hi hi' : Nat} (hs : Mid lo hi w w') (h2 : hi ≤ hi') : ∀ (t : VT) (cs : List Value), RV w lo hi t cs → RV w' lo hi' t cs
 | .mk k b n s l f, cs, h => by
   unfold RV at h ⊢
   obtain ⟨a1, c1, a2, c2, e, hk, hn, hsz, hl, hf, hc1, hc2, hL, hF⟩ := h
   refine ⟨a1, c1, a2, c2, e, hk, hn, hsz, hl, hf, hc1, hc2, ?_, ?_⟩
   · rcases hL with h0 | ⟨b', o, rfl, hlo, hhi, hr⟩
     · exact Or.inl h0
     · exact Or.inr ⟨b', o, rfl, hlo, by omega, RL.mid hs h2 l b' o hlo hhi hr⟩
   · rcases hF with h0 | ⟨b', o, rfl, hlo, hhi, hr⟩
     · exact Or.inl h0
     · exact Or.inr ⟨b', o, rfl, hlo, by omega, RF.mid hs h2 f b' o hlo hhi hr⟩
theorem RL.mid {w w' : World} {lo hi hi' : Nat} (hs : Mid lo hi w w') (h2 : hi ≤ hi') : ∀ (l : VL) (b o : Nat), lo ≤ b → b < hi → RL w lo hi l b o → RL w' lo hi' l b o
 | .nil, _, _, _, _, _ => by unfold RL; trivial
 | .cons t r, b, o, hlo, hb, h => by
   unfold RL at h ⊢
   obtain ⟨⟨v0, v1, v2, v3, v4, v5, e0, e1, e2, e3, e4, e5, hv⟩, hr⟩ := h
   exact ⟨⟨v0, v1, v2, v3, v4, v5, (hs _ _ hlo hb).trans e0, (hs _ _ hlo hb).trans e1, (hs _ _ hlo hb).trans e2, (hs _ _ hlo hb).trans e3, (hs _ _ hlo hb).trans e4, (hs _ _ hlo hb).trans e5, RV.mid hs h2 t _ hv⟩, RL.mid hs h2 r b (o + 6) hlo hb hr⟩
theorem RF.mid {w w' : World} {lo hi hi' : Nat} (hs : Mid lo hi w w') (h2 : hi ≤ hi') : ∀ (f : FL) (b o : Nat), lo ≤ b → b < hi → RF w lo hi f b o → RF w' lo hi' f b o
 | .nil, _, _, _, _, _ => by unfold RF; trivial
 | .cons s t r, b, o, hlo, hb, h => by
   unfold RF at h ⊢
   obtain ⟨⟨es, hss, v0, v1, v2, v3, v4, v5, e0, e1, e2, e3, e4, e5, hv⟩, hr⟩ := h
   exact ⟨⟨(hs _ _ hlo hb).trans es, hss, v0, v1, v2, v3, v4, v5, (hs _ _ hlo hb).trans e0, (hs _ _ hlo hb).trans e1, (hs _ _ hlo hb).trans e2, (hs _ _ hlo hb).trans e3, (hs _ _ hlo hb).trans e4, (hs _ _ hlo hb).trans e5, RV.mid hs h2 t _ hv⟩, RF.mid hs h2 r b (o + 7) hlo hb hr⟩
end
theorem AM {w w' : World} {B : Nat} {T : TypeId} {sz : Nat} {v : Value} {n : Nat} {xs : List Value} (h : w.ownsRow B T sz v n xs) (hb : Below w.heap.size w w') : w'.ownsRow B T sz v n xs := by
 refine ⟨h.1, ?_⟩
 rcases h.2 with h' | ⟨g, cap, cur, h1, h2, h3, h4⟩
 · exact Or.inl h'
 · exact Or.inr ⟨g, cap, cur, h1, h2, (hb.block g (lt_of_block h3)).trans h3, h4⟩
theorem EY {w : World} {B : Nat} {T : TypeId} {sz : Nat} {g cap n : Nat} : ∀ (vs : List Value) (o : Nat) (w : World), (∃ xs, w.ownsRow B T sz (.slice (some ⟨g, 0, none⟩) n cap) n xs) → ∃ xs, (w.setCells g o vs).ownsRow B T sz (.slice (some ⟨g, 0, none⟩) n cap) n xs
 | [], _, _, h => h
 | v :: r, o, w, ⟨xs, h⟩ => EY r (o + 1) (w.setCell ⟨g, o, none⟩ v) (w := w) ⟨_, (h.stored o v).1⟩
theorem Ag {B : Nat} {a : World} {g : Nat} (hg : B ≤ g) : ∀ (vs : List Value) (o : Nat) (w : World), Below B a w → Below B a (w.setCells g o vs)
 | [], _, _, h => h
 | v :: r, o, w, h => Ag hg r (o + 1) _ (h.setCell (p := ⟨g, o, none⟩) hg v)
theorem Ay {g : Nat} : ∀ (vs : List Value) (o : Nat) (w : World), (w.setCells g o vs).heap.size = w.heap.size
 | [], _, _ => rfl
 | v :: r, o, w => by rw [World.setCells, Ay r]; simp [World.setCell]
theorem Ar {g b : Nat} (h : b ≠ g) (vs : List Value) (o o' : Nat) (w : World) : (w.setCells g o vs).cell? ⟨b, o', none⟩ = w.cell? ⟨b, o', none⟩ :=
 World.cell?_setCells_out g vs o w ⟨b, o', none⟩ (fun e => absurd e h)
theorem VL.get?_some : ∀ (l : VL) (i : Nat) (t : VT), l.get? i = some t → i < l.len
 | .nil, _, _, h => by simp [VL.get?] at h
 | .cons t r, 0, _, _ => by simp [VL.len]
 | .cons t r, i + 1, t', h => by have := VL.get?_some r i t' (by simpa [VL.get?] using h); simp only [VL.len]; omega
theorem FL.get?_some : ∀ (l : FL) (i : Nat) (t : ByteArray × VT), l.get? i = some t → i < l.len
 | .nil, _, _, h => by simp [FL.get?] at h
 | .cons s t r, 0, _, _ => by simp [FL.len]
 | .cons s t r, i + 1, t', h => by have := FL.get?_some r i t' (by simpa [FL.get?] using h); simp only [FL.len]; omega
def RowV (B hi0 mid : Nat) (w : World) (l : VL) (i : Nat) (v : Value) : Prop := (∃ xs, w.ownsRow B 27 6 v l.len xs) ∧ ∀ g, v.ownBlock = some g → g < mid ∧ ∀ j (t : VT), l.get? j = some t → (j < i → ElV w mid w.heap.size t g (0 + j * 6)) ∧ (¬ j < i → ElV w 0 hi0 t g (0 + j * 6))
theorem RowV.keep {B hi0 mid : Nat} {w w' : World} {l : VL} {i : Nat} {v : Value} (hb : Below w.heap.size w w') (hmid : hi0 ≤ w.heap.size) (h : RowV B hi0 mid w l i v) : RowV B hi0 mid w' l i v := by
 obtain ⟨⟨xs, h1⟩, h2⟩ := h
 refine ⟨⟨xs, AM h1 hb⟩, fun g hg => ⟨(h2 g hg).1, fun j t hj => ⟨fun hlt => ?_, fun hge => ?_⟩⟩⟩
 · exact ElV.keep t (fun m hm => hb.cell (p := ⟨g, 0 + j * 6 + m, none⟩) (h1.lt g hg).2) (fun cs hcs => RV.keep (Same.of_below hb) (Nat.le_refl _) hb.size t cs hcs) (((h2 g hg).2 j t hj).1 hlt)
 · exact ElV.keep t (fun m hm => hb.cell (p := ⟨g, 0 + j * 6 + m, none⟩) (h1.lt g hg).2) (fun cs hcs => RV.keep (Same.of_below (hb.mono hmid)) (Nat.le_refl _) (Nat.le_refl _) t cs hcs) (((h2 g hg).2 j t hj).2 hge)
theorem RowV.store {B hi0 mid g cap : Nat} {w : World} {l : VL} {i : Nat} (t : VT) {v0 v1 v2 v3 v4 v5 : Value} (h : RowV B hi0 mid w l i (.slice (some ⟨g, 0, none⟩) l.len cap)) (hB : hi0 ≤ B) (hi : i < l.len) (ht : l.get? i = some t) (hv : RV w mid w.heap.size t [v0, v1, v2, v3, v4, v5]) :
   RowV B hi0 mid (w.setCells g (i * 6) [v0, v1, v2, v3, v4, v5]) l (i + 1) (.slice (some ⟨g, 0, none⟩) l.len cap) := by
 obtain ⟨⟨xs, h1⟩, h2⟩ := h
 refine ⟨EY _ _ w (w := w) ⟨xs, h1⟩, fun g' hg' => ?_⟩
 have hg : g' = g := by simp [Value.ownBlock] at hg'; exact hg'.symm
 subst hg
 obtain ⟨hgm, h3⟩ := h2 g' hg'
 have hge := (h1.lt g' hg').1
 have hlen := h1.1
 have hcell : ∀ j, j < l.len * 6 → (w.cell? ⟨g', j, none⟩).isSome = true := by
   intro j hj
   rw [h1.cellAt j hj, List.getElem?_eq_getElem (by omega)]; rfl
 have hout : ∀ o', (o' < i * 6 ∨ i * 6 + 6 ≤ o') → (w.setCells g' (i * 6) [v0, v1, v2, v3, v4, v5]).cell? ⟨g', o', none⟩ = w.cell? ⟨g', o', none⟩ := fun o' ho => World.cell?_setCells_out g' _ _ w ⟨g', o', none⟩ (fun _ _ => ho)
 have hin : ∀ m (hm : m < [v0, v1, v2, v3, v4, v5].length), (w.setCells g' (i * 6) [v0, v1, v2, v3, v4, v5]).cell? ⟨g', i * 6 + m, none⟩ = some [v0, v1, v2, v3, v4, v5][m] := fun m hm => World.cell?_setCells_in g' _ _ w (fun j hj => hcell _ (by simp at hj; omega)) m hm
 have hmid : Mid mid w.heap.size w (w.setCells g' (i * 6) [v0, v1, v2, v3, v4, v5]) := fun b o hb _ => Ar (by omega) _ _ _ _
 have hlow : ∀ (t' : VT) (cs : List Value), RV w 0 hi0 t' cs → RV (w.setCells g' (i * 6) [v0, v1, v2, v3, v4, v5]) 0 hi0 t' cs := fun t' cs hcs => RV.keep (fun b o hb => Ar (by omega) _ _ _ _) (Nat.le_refl _) (Nat.le_refl _) t' cs hcs
 have hsz := Ay (g := g') [v0, v1, v2, v3, v4, v5] (i * 6) w
 refine ⟨hgm, fun j t' hj => ⟨fun hlt => ?_, fun hge => ?_⟩⟩
 · rw [hsz]
   by_cases hji : j = i
   · subst hji
     rw [ht] at hj
     cases hj
     refine ⟨v0, v1, v2, v3, v4, v5, ?_, ?_, ?_, ?_, ?_, ?_, RV.mid hmid (Nat.le_refl _) t _ hv⟩
     · have := hin 0 (by simp); simpa using this
     · have := hin 1 (by simp); simpa using this
     · have := hin 2 (by simp); simpa using this
     · have := hin 3 (by simp); simpa using this
     · have := hin 4 (by simp); simpa using this
     · have := hin 5 (by simp); simpa using this
   · exact ElV.keep t' (fun m hm => hout _ (by omega)) (fun cs hcs => RV.mid hmid (Nat.le_refl _) t' cs hcs) ((h3 j t' hj).1 (by omega))
 · exact ElV.keep t' (fun m hm => hout _ (by omega)) (hlow t') ((h3 j t' hj).2 (by omega))
theorem RowV.start {B hi0 mid : Nat} {w w' : World} {l : VL} {a : Option Addr} {v : Value} {xs : List Value} (hown : w'.ownsRow B 27 6 v l.len xs) (hx : ∀ b o, a = some ⟨b, o, none⟩ → ∀ j, j < l.len * 6 → xs[j]? = w.cell? ⟨b, o + j, none⟩)
   (hr : l.len = 0 ∨ ∃ b o, a = some ⟨b, o, none⟩ ∧ 0 ≤ b ∧ b < hi0 ∧ RL w 0 hi0 l b o) (hs : Same hi0 w w') (hm : ∀ g, v.ownBlock = some g → g < mid) : RowV B hi0 mid w' l 0 v := by
 refine ⟨⟨xs, hown⟩, fun g hg => ⟨hm g hg, fun j t hj => ⟨fun h => absurd h (Nat.not_lt_zero _), fun _ => ?_⟩⟩⟩
 have hjl : j < l.len := VL.get?_some l j _ hj
 rcases hr with h0 | ⟨b, o, e, _, hb, hR⟩
 · omega
 have hel := RL.el l b o j t hR hj
 refine ElV.keep t (fun m hm => ?_) (fun cs hcs => RV.keep hs (Nat.le_refl _) (Nat.le_refl _) t cs hcs) hel
 have hjl2 : j * 6 + 6 ≤ l.len * 6 := by rw [← Nat.succ_mul]; exact Nat.mul_le_mul_right _ hjl
 have h1 := hx b o e (j * 6 + m) (by omega)
 have h2 : xs.length = l.len * 6 := hown.1
 have hlt : j * 6 + m < xs.length := by omega
 have h3 := hown.cells hg (j * 6 + m) xs[j * 6 + m] (List.getElem?_eq_getElem hlt)
 rw [AS] at h3
 rw [show 0 + j * 6 + m = 0 + (j * 6 + m) by omega, h3, ← List.getElem?_eq_getElem hlt, h1, show o + (j * 6 + m) = o + j * 6 + m by omega]
theorem RowV.done {B hi0 mid : Nat} {w : World} {l : VL} {v : Value} (h : RowV B hi0 mid w l l.len v) : (∃ xs, w.ownsRow B 27 6 v l.len xs) ∧ ∀ g, v.ownBlock = some g → g < mid ∧ RL w mid w.heap.size l g 0 :=
 ⟨h.1, fun g hg => ⟨(h.2 g hg).1, RL.of_el l g 0 fun j t hj => ((h.2 g hg).2 j t hj).1 (VL.get?_some l j _ hj)⟩⟩
def RowF (B hi0 mid : Nat) (w : World) (l : FL) (i : Nat) (v : Value) : Prop := (∃ xs, w.ownsRow B 53 7 v l.len xs) ∧ ∀ g, v.ownBlock = some g → g < mid ∧ ∀ j (s : ByteArray) (t : VT), l.get? j = some (s, t) → (j < i → ElF w mid w.heap.size s t g (0 + j * 7)) ∧ (¬ j < i → ElF w 0 hi0 s t g (0 + j * 7))
theorem RowF.keep {B hi0 mid : Nat} {w w' : World} {l : FL} {i : Nat} {v : Value} (hb : Below w.heap.size w w') (hmid : hi0 ≤ w.heap.size) (h : RowF B hi0 mid w l i v) : RowF B hi0 mid w' l i v := by
 obtain ⟨⟨xs, h1⟩, h2⟩ := h
 refine ⟨⟨xs, AM h1 hb⟩, fun g hg => ⟨(h2 g hg).1, fun j s t hj => ⟨fun hlt => ?_, fun hge => ?_⟩⟩⟩
 · exact ElF.keep s t (fun m hm => hb.cell (p := ⟨g, 0 + j * 7 + m, none⟩) (h1.lt g hg).2) (fun cs hcs => RV.keep (Same.of_below hb) (Nat.le_refl _) hb.size t cs hcs) (((h2 g hg).2 j s t hj).1 hlt)
 · exact ElF.keep s t (fun m hm => hb.cell (p := ⟨g, 0 + j * 7 + m, none⟩) (h1.lt g hg).2) (fun cs hcs => RV.keep (Same.of_below (hb.mono hmid)) (Nat.le_refl _) (Nat.le_refl _) t cs hcs) (((h2 g hg).2 j s t hj).2 hge)
theorem RowF.store {B hi0 mid g cap : Nat} {w : World} {l : FL} {i : Nat} (s : ByteArray) (t : VT) {v0 v1 v2 v3 v4 v5 : Value} (h : RowF B hi0 mid w l i (.slice (some ⟨g, 0, none⟩) l.len cap)) (hB : hi0 ≤ B) (hi : i < l.len) (ht : l.get? i = some (s, t)) (hv : RV w mid w.heap.size t [v0, v1, v2, v3, v4, v5]) :
   RowF B hi0 mid (w.setCells g (i * 7 + 1) [v0, v1, v2, v3, v4, v5]) l (i + 1) (.slice (some ⟨g, 0, none⟩) l.len cap) := by
 obtain ⟨⟨xs, h1⟩, h2⟩ := h
 refine ⟨EY _ _ w (w := w) ⟨xs, h1⟩, fun g' hg' => ?_⟩
 have hg : g' = g := by simp [Value.ownBlock] at hg'; exact hg'.symm
 subst hg
 obtain ⟨hgm, h3⟩ := h2 g' hg'
 have hge := (h1.lt g' hg').1
 have hlen := h1.1
 have hcell : ∀ j, j < l.len * 7 → (w.cell? ⟨g', j, none⟩).isSome = true := by
   intro j hj
   rw [h1.cellAt j hj, List.getElem?_eq_getElem (by omega)]; rfl
 have hout : ∀ o', (o' < i * 7 + 1 ∨ i * 7 + 1 + 6 ≤ o') → (w.setCells g' (i * 7 + 1) [v0, v1, v2, v3, v4, v5]).cell? ⟨g', o', none⟩ = w.cell? ⟨g', o', none⟩ := fun o' ho => World.cell?_setCells_out g' _ _ w ⟨g', o', none⟩ (fun _ _ => ho)
 have hin : ∀ m (hm : m < [v0, v1, v2, v3, v4, v5].length), (w.setCells g' (i * 7 + 1) [v0, v1, v2, v3, v4, v5]).cell? ⟨g', i * 7 + 1 + m, none⟩ = some [v0, v1, v2, v3, v4, v5][m] := fun m hm => World.cell?_setCells_in g' _ _ w (fun j hj => hcell _ (by simp at hj; omega)) m hm
 have hmid : Mid mid w.heap.size w (w.setCells g' (i * 7 + 1) [v0, v1, v2, v3, v4, v5]) := fun b o hb _ => Ar (by omega) _ _ _ _
 have hlow : ∀ (t' : VT) (cs : List Value), RV w 0 hi0 t' cs → RV (w.setCells g' (i * 7 + 1) [v0, v1, v2, v3, v4, v5]) 0 hi0 t' cs := fun t' cs hcs => RV.keep (fun b o hb => Ar (by omega) _ _ _ _) (Nat.le_refl _) (Nat.le_refl _) t' cs hcs
 have hsz := Ay (g := g') [v0, v1, v2, v3, v4, v5] (i * 7 + 1) w
 refine ⟨hgm, fun j s' t' hj => ⟨fun hlt => ?_, fun hge => ?_⟩⟩
 · rw [hsz]
   by_cases hji : j = i
   · subst hji
     rw [ht] at hj
     cases hj
     obtain ⟨en, hsn, _⟩ := ((h3 j s t ht).2 (by omega))
     refine ⟨(hout _ (by omega)).trans en, hsn, v0, v1, v2, v3, v4, v5, ?_, ?_, ?_, ?_, ?_, ?_, RV.mid hmid (Nat.le_refl _) t _ hv⟩
     · have := hin 0 (by simp); simpa using this
     · have := hin 1 (by simp); simpa using this
     · have := hin 2 (by simp); simpa using this
     · have := hin 3 (by simp); simpa using this
     · have := hin 4 (by simp); simpa using this
     · have := hin 5 (by simp); simpa using this
   · exact ElF.keep s' t' (fun m hm => hout _ (by omega)) (fun cs hcs => RV.mid hmid (Nat.le_refl _) t' cs hcs) ((h3 j s' t' hj).1 (by omega))
 · exact ElF.keep s' t' (fun m hm => hout _ (by omega)) (hlow t') ((h3 j s' t' hj).2 (by omega))
theorem RowF.start {B hi0 mid : Nat} {w w' : World} {l : FL} {a : Option Addr} {v : Value} {xs : List Value} (hown : w'.ownsRow B 53 7 v l.len xs) (hx : ∀ b o, a = some ⟨b, o, none⟩ → ∀ j, j < l.len * 7 → xs[j]? = w.cell? ⟨b, o + j, none⟩)
   (hr : l.len = 0 ∨ ∃ b o, a = some ⟨b, o, none⟩ ∧ 0 ≤ b ∧ b < hi0 ∧ RF w 0 hi0 l b o) (hs : Same hi0 w w') (hm : ∀ g, v.ownBlock = some g → g < mid) : RowF B hi0 mid w' l 0 v := by
 refine ⟨⟨xs, hown⟩, fun g hg => ⟨hm g hg, fun j s t hj => ⟨fun h => absurd h (Nat.not_lt_zero _), fun _ => ?_⟩⟩⟩
 have hjl : j < l.len := FL.get?_some l j _ hj
 rcases hr with h0 | ⟨b, o, e, _, hb, hR⟩
 · omega
 have hel := RF.el l b o j s t hR hj
 refine ElF.keep s t (fun m hm => ?_) (fun cs hcs => RV.keep hs (Nat.le_refl _) (Nat.le_refl _) t cs hcs) hel
 have hjl2 : j * 7 + 7 ≤ l.len * 7 := by rw [← Nat.succ_mul]; exact Nat.mul_le_mul_right _ hjl
 have h1 := hx b o e (j * 7 + m) (by omega)
 have h2 : xs.length = l.len * 7 := hown.1
 have hlt : j * 7 + m < xs.length := by omega
 have h3 := hown.cells hg (j * 7 + m) xs[j * 7 + m] (List.getElem?_eq_getElem hlt)
 rw [AS] at h3
 rw [show 0 + j * 7 + m = 0 + (j * 7 + m) by omega, h3, ← List.getElem?_eq_getElem hlt, h1, show o + (j * 7 + m) = o + j * 7 + m by omega]
theorem RowF.done {B hi0 mid : Nat} {w : World} {l : FL} {v : Value} (h : RowF B hi0 mid w l l.len v) : (∃ xs, w.ownsRow B 53 7 v l.len xs) ∧ ∀ g, v.ownBlock = some g → g < mid ∧ RF w mid w.heap.size l g 0 :=
 ⟨h.1, fun g hg => ⟨(h.2 g hg).1, RF.of_el l g 0 fun j s t hj => ((h.2 g hg).2 j s t hj).1 (FL.get?_some l j _ hj)⟩⟩
/- value.own: a value of its own memory. -/
def OwnC (B : Nat) (w : World) (l : VL) (f : FL) (v1 v2 : Value) : Prop := ∃ mid, B ≤ mid ∧ mid ≤ w.heap.size ∧ (∃ xs, w.ownsRow B 27 6 v1 l.len xs) ∧ (∃ ys, w.ownsRow B 53 7 v2 f.len ys) ∧
 (∀ g, v1.ownBlock = some g → g < mid ∧ RL w mid w.heap.size l g 0) ∧ (∀ g, v2.ownBlock = some g → g < mid ∧ RF w mid w.heap.size f g 0)
def G6 (w : World) (k : Int) (b : Bool) (n : Int) (s : ByteArray) (l : VL) (f : FL) (x : Ending) (w' : World) : Prop :=
 ∃ v1 v2, x = .returned (.agg #[.int .u8 k, .bool b, .int .i64 n, .string s, v1, v2]) ∧ OwnC w.heap.size w' l f v1 v2 ∧ Below w.heap.size w w'
def OwnT (w : World) : VT → Ending → World → Prop
 | .mk k b n s l f, x, w' => G6 w k b n s l f x w'
abbrev QD (N : Nat) : Prop := ∀ t : VT, t.size < N → ∀ (w : World) (cs : List Value) (hi : Nat), RV w 0 hi t cs → hi ≤ w.heap.size →
 Calls Tryz.prog 75 #[.agg cs.toArray] w (OwnT w t)
theorem C7 {w : World} {B : Nat} {T : TypeId} {sz n : Nat} {v : Value} {xs : List Value} (h : w.ownsRow B T sz v n xs) : v = .slice none 0 0 ∧ n = 0 ∨ ∃ g cap, v = .slice (some ⟨g, 0, none⟩) n cap ∧ n ≤ cap ∧ B ≤ g ∧ g < w.heap.size := by
 rcases h.2 with h | ⟨g, cap, cur, h1, h2, h3, h4, _⟩
 · exact Or.inl h
 · exact Or.inr ⟨g, cap, h1, h4, h2, lt_of_block h3⟩
theorem Db {w : World} {B : Nat} {T : TypeId} {sz n : Nat} {v : Value} {xs : List Value} {g : Nat} (h : w.ownsRow B T sz v n xs) (hg : g < B) : v.ownBlock ≠ some g := fun e => by have := (h.lt g e).1; omega
theorem DF {w : World} {B B' : Nat} {T : TypeId} {sz n : Nat} {v : Value} {xs : List Value} (h : w.ownsRow B T sz v n xs) (hB : B' ≤ B) : w.ownsRow B' T sz v n xs := ⟨h.1, h.2.imp id fun ⟨g, cap, cur, h1, h2, h3⟩ => ⟨g, cap, cur, h1, Nat.le_trans hB h2, h3⟩⟩
theorem By {w : World} {B : Nat} {T : TypeId} {sz n : Nat} {v : Value} {xs : List Value} (h : w.ownsRow B T sz v n xs) : ∃ a c, v = .slice a n c := by
 rcases C7 h with ⟨rfl, rfl⟩ | ⟨g, cap, rfl, _⟩
 · exact ⟨none, 0, rfl⟩
 · exact ⟨_, cap, rfl⟩
theorem OwnC.reads {B : Nat} {w : World} {k : Int} {b : Bool} {n : Int} {s : ByteArray} {l : VL} {f : FL} {v1 v2 : Value} (h : OwnC B w l f v1 v2) (hk : 0 ≤ k ∧ k ≤ 255) (hn : I64 n) (hs : s.size ≤ LIM) (hl : l.len ≤ LIM) (hf : f.len ≤ LIM) :
   RV w B w.heap.size (.mk k b n s l f) [.int .u8 k, .bool b, .int .i64 n, .string s, v1, v2] := by
 obtain ⟨mid, h1, h2, ⟨xs, h3⟩, ⟨ys, h4⟩, h5, h6⟩ := h
 unfold RV
 have hsub : ∀ (l : VL) g, RL w mid w.heap.size l g 0 → g < w.heap.size → RL w B w.heap.size l g 0 := fun l g h hg => RL.keep (fun _ _ _ => rfl) h1 (Nat.le_refl _) l g 0 hg h
 have hsub2 : ∀ (l : FL) g, RF w mid w.heap.size l g 0 → g < w.heap.size → RF w B w.heap.size l g 0 := fun l g h hg => RF.keep (fun _ _ _ => rfl) h1 (Nat.le_refl _) l g 0 hg h
 rcases C7 h3 with ⟨rfl, e1⟩ | ⟨g1, c1, rfl, hc1, hg1, hs1⟩ <;> rcases C7 h4 with ⟨rfl, e2⟩ | ⟨g2, c2, rfl, hc2, hg2, hs2⟩
 · exact ⟨none, 0, none, 0, by rw [e1, e2], hk, hn, hs, hl, hf, by omega, by omega, Or.inl e1, Or.inl e2⟩
 · exact ⟨none, 0, some ⟨g2, 0, none⟩, c2, by rw [e1], hk, hn, hs, hl, hf, by omega, hc2, Or.inl e1, Or.inr ⟨g2, 0, rfl, hg2, hs2, hsub2 _ _ (h6 g2 rfl).2 hs2⟩⟩
 · exact ⟨some ⟨g1, 0, none⟩, c1, none, 0, by rw [e2], hk, hn, hs, hl, hf, hc1, by omega, Or.inr ⟨g1, 0, rfl, hg1, hs1, hsub _ _ (h5 g1 rfl).2 hs1⟩, Or.inl e2⟩
 · exact ⟨some ⟨g1, 0, none⟩, c1, some ⟨g2, 0, none⟩, c2, rfl, hk, hn, hs, hl, hf, hc1, hc2, Or.inr ⟨g1, 0, rfl, hg1, hs1, hsub _ _ (h5 g1 rfl).2 hs1⟩, Or.inr ⟨g2, 0, rfl, hg2, hs2, hsub2 _ _ (h6 g2 rfl).2 hs2⟩⟩
theorem OwnT.reads {w w' : World} {hi : Nat} {t : VT} {cs : List Value} {x : Ending} (hv : RV w 0 hi t cs) (h : OwnT w t x w') :
   ∃ (k : Int) (b : Bool) (n : Int) (s : ByteArray) (a1 : Option Addr) (l1 c1 : Nat) (a2 : Option Addr) (l2 c2 : Nat), x = .returned (.agg #[.int .u8 k, .bool b, .int .i64 n, .string s, .slice a1 l1 c1, .slice a2 l2 c2]) ∧ RV w' w.heap.size w'.heap.size t [.int .u8 k, .bool b, .int .i64 n, .string s, .slice a1 l1 c1, .slice a2 l2 c2] ∧ Below w.heap.size w w' := by
 cases t with
 | mk k b n s l f =>
   unfold RV at hv
   obtain ⟨_, _, _, _, _, hk, hn, hsz, hl, hf, _⟩ := hv
   obtain ⟨v1, v2, rfl, hc, hb⟩ := h
   have hr := hc.reads (b := b) hk hn hsz hl hf
   obtain ⟨k', b', n', s', a1, l1, c1, a2, l2, c2, e1, e2, e3, e4, e5, e6⟩ := RV.open6 hr
   rw [e5, e6] at hr ⊢
   exact ⟨k, b, n, s, a1, l1, c1, a2, l2, c2, rfl, hr, hb⟩
theorem blk {W w1 : World} {b : Nat} {x : Obj} (hb : Below W.heap.size W w1) (h : W.heap[b]? = some x) : w1.heap[b]? = some x := (hb.block b (lt_of_block h)).trans h
theorem B9 {W : World} {b g o : Nat} {x : Obj} {v : Value} (hne : b ≠ g) (h : W.heap[b]? = some x) : (W.setCell ⟨g, o, none⟩ v).heap[b]? = some x := by rw [Below.heap_setCell _ _ _ _ hne]; exact h
theorem B7 {b g : Nat} {x : Obj} (hne : b ≠ g) : ∀ (vs : List Value) (o : Nat) (W : World), W.heap[b]? = some x → (W.setCells g o vs).heap[b]? = some x
 | [], _, _, h => h
 | v :: r, o, W, h => B7 hne r (o + 1) _ (B9 hne h)
theorem Cq {w : World} {B : Nat} {T : TypeId} {sz : Nat} {v : Value} {n : Nat} {xs : List Value} {g o : Nat} {u : Value} (h : w.ownsRow B T sz v n xs) (hne : v.ownBlock ≠ some g) : (w.setCell ⟨g, o, none⟩ u).ownsRow B T sz v n xs := by
 refine ⟨h.1, ?_⟩
 rcases h.2 with h' | ⟨g', cap, cur, h1, h2, h3, h4⟩
 · exact Or.inl h'
 · refine Or.inr ⟨g', cap, cur, h1, h2, B9 (fun e => hne ?_) h3, h4⟩
   rw [h1]; simp [Value.ownBlock, e]
theorem Cz {B : Nat} {T : TypeId} {sz : Nat} {v : Value} {n : Nat} {xs : List Value} {g : Nat} (hne : v.ownBlock ≠ some g) : ∀ (vs : List Value) (o : Nat) (w : World), w.ownsRow B T sz v n xs → (w.setCells g o vs).ownsRow B T sz v n xs
 | [], _, _, h => h
 | u :: r, o, w, h => Cz hne r (o + 1) _ (Cq h hne)
theorem RowV.set {B hi0 mid g o : Nat} {w : World} {l : VL} {i : Nat} {v : Value} (vs : List Value) (h : RowV B hi0 mid w l i v) (hne : v.ownBlock ≠ some g) (hg0 : hi0 ≤ g) (hgm : g < mid) : RowV B hi0 mid (w.setCells g o vs) l i v := by
 obtain ⟨⟨xs, h1⟩, h2⟩ := h
 refine ⟨⟨xs, Cz hne vs o w h1⟩, fun g' hg' => ?_⟩
 have hgg : g' ≠ g := fun e => hne (by rw [← e]; exact hg')
 obtain ⟨h3, h4⟩ := h2 g' hg'
 rw [Ay]
 refine ⟨h3, fun j t hj => ⟨fun hlt => ?_, fun hge => ?_⟩⟩
 · exact ElV.keep t (fun m hm => Ar hgg _ _ _ _) (fun cs hcs => RV.mid (fun b o hb _ => Ar (by omega) _ _ _ _) (Nat.le_refl _) t cs hcs) ((h4 j t hj).1 hlt)
 · exact ElV.keep t (fun m hm => Ar hgg _ _ _ _) (fun cs hcs => RV.keep (fun b o hb => Ar (by omega) _ _ _ _) (Nat.le_refl _) (Nat.le_refl _) t cs hcs) ((h4 j t hj).2 hge)
theorem RowF.set {B hi0 mid g o : Nat} {w : World} {l : FL} {i : Nat} {v : Value} (vs : List Value) (h : RowF B hi0 mid w l i v) (hne : v.ownBlock ≠ some g) (hg0 : hi0 ≤ g) (hgm : g < mid) : RowF B hi0 mid (w.setCells g o vs) l i v := by
 obtain ⟨⟨xs, h1⟩, h2⟩ := h
 refine ⟨⟨xs, Cz hne vs o w h1⟩, fun g' hg' => ?_⟩
 have hgg : g' ≠ g := fun e => hne (by rw [← e]; exact hg')
 obtain ⟨h3, h4⟩ := h2 g' hg'
 rw [Ay]
 refine ⟨h3, fun j s t hj => ⟨fun hlt => ?_, fun hge => ?_⟩⟩
 · exact ElF.keep s t (fun m hm => Ar hgg _ _ _ _) (fun cs hcs => RV.mid (fun b o hb _ => Ar (by omega) _ _ _ _) (Nat.le_refl _) t cs hcs) ((h4 j s t hj).1 hlt)
 · exact ElF.keep s t (fun m hm => Ar hgg _ _ _ _) (fun cs hcs => RV.keep (fun b o hb => Ar (by omega) _ _ _ _) (Nat.le_refl _) (Nat.le_refl _) t cs hcs) ((h4 j s t hj).2 hge)
theorem R7 {p hi mid g cap i j : Nat} {w wr w7 : World} {ob oz : Obj} {l : VL} {f : FL} {v2 : Value} {t : VT} {u0 u1 u2 u3 u4 u5 : Value} (hT : wr.heap[p]? = some ob) (hZ : wr.heap[p + 1]? = some oz) (hD : Below p w wr) (hhi : hi ≤ p) (hm1 : p + 2 ≤ mid) (hm2 : mid ≤ wr.heap.size)
   (hr1 : RowV (p + 2) hi mid wr l i (.slice (some ⟨g, 0, none⟩) l.len cap)) (hr2 : RowF (p + 2) hi mid wr f j v2) (hne : v2.ownBlock ≠ some g) (ht : l.get? i = some t) (hb : Below wr.heap.size wr w7) (hv7 : RV w7 wr.heap.size w7.heap.size t [u0, u1, u2, u3, u4, u5]) :
   (w7.setCells g (i * 6) [u0, u1, u2, u3, u4, u5]).heap[p]? = some ob ∧ (w7.setCells g (i * 6) [u0, u1, u2, u3, u4, u5]).heap[p + 1]? = some oz ∧ Below p w (w7.setCells g (i * 6) [u0, u1, u2, u3, u4, u5]) ∧ mid ≤ (w7.setCells g (i * 6) [u0, u1, u2, u3, u4, u5]).heap.size ∧ RowV (p + 2) hi mid (w7.setCells g (i * 6) [u0, u1, u2, u3, u4, u5]) l (i + 1) (.slice (some ⟨g, 0, none⟩) l.len cap) ∧ RowF (p + 2) hi mid (w7.setCells g (i * 6) [u0, u1, u2, u3, u4, u5]) f j v2 := by
 obtain ⟨ys, ho⟩ := hr1.1
 have hg := ho.lt g rfl
 have hgm := (hr1.2 g rfl).1
 have hs := hD.size
 have hb2 := hb.size
 have hlt := lt_of_block hZ
 refine ⟨B7 (by omega) _ _ _ (blk hb hT), B7 (by omega) _ _ _ (blk hb hZ), Ag (by omega) _ _ _ (Aa hD (by omega) hb), by rw [Ay]; omega, ?_, ?_⟩
 · exact RowV.store t (RowV.keep hb (by omega) hr1) (by omega) (VL.get?_some l i _ ht) ht (RV.keep (fun _ _ _ => rfl) (by omega) (Nat.le_refl _) t _ hv7)
 · exact RowF.set _ (RowF.keep hb (by omega) hr2) hne (by omega) hgm
theorem R6 {p hi mid g cap i j : Nat} {w wr w7 : World} {ob oz : Obj} {f : FL} {l : VL} {v2 : Value} {s : ByteArray} {t : VT} {u0 u1 u2 u3 u4 u5 : Value} (hT : wr.heap[p]? = some ob) (hZ : wr.heap[p + 1]? = some oz) (hD : Below p w wr) (hhi : hi ≤ p) (hm1 : p + 2 ≤ mid) (hm2 : mid ≤ wr.heap.size)
   (hr1 : RowF (p + 2) hi mid wr f i (.slice (some ⟨g, 0, none⟩) f.len cap)) (hr2 : RowV (p + 2) hi mid wr l j v2) (hne : v2.ownBlock ≠ some g) (ht : f.get? i = some (s, t)) (hb : Below wr.heap.size wr w7) (hv7 : RV w7 wr.heap.size w7.heap.size t [u0, u1, u2, u3, u4, u5]) :
   (w7.setCells g (i * 7 + 1) [u0, u1, u2, u3, u4, u5]).heap[p]? = some ob ∧ (w7.setCells g (i * 7 + 1) [u0, u1, u2, u3, u4, u5]).heap[p + 1]? = some oz ∧ Below p w (w7.setCells g (i * 7 + 1) [u0, u1, u2, u3, u4, u5]) ∧ mid ≤ (w7.setCells g (i * 7 + 1) [u0, u1, u2, u3, u4, u5]).heap.size ∧ RowF (p + 2) hi mid (w7.setCells g (i * 7 + 1) [u0, u1, u2, u3, u4, u5]) f (i + 1) (.slice (some ⟨g, 0, none⟩) f.len cap) ∧ RowV (p + 2) hi mid (w7.setCells g (i * 7 + 1) [u0, u1, u2, u3, u4, u5]) l j v2 := by
 obtain ⟨ys, ho⟩ := hr1.1
 have hg := ho.lt g rfl
 have hgm := (hr1.2 g rfl).1
 have hs := hD.size
 have hb2 := hb.size
 have hlt := lt_of_block hZ
 refine ⟨B7 (by omega) _ _ _ (blk hb hT), B7 (by omega) _ _ _ (blk hb hZ), Ag (by omega) _ _ _ (Aa hD (by omega) hb), by rw [Ay]; omega, ?_, ?_⟩
 · exact RowF.store s t (RowF.keep hb (by omega) hr1) (by omega) (FL.get?_some f i _ ht) ht (RV.keep (fun _ _ _ => rfl) (by omega) (Nat.le_refl _) t _ hv7)
 · exact RowV.set _ (RowV.keep hb (by omega) hr2) hne (by omega) hgm
theorem OH {a b c d e f : Prop} (h : a ∧ b ∧ c ∧ d ∧ e ∧ f) : a ∧ b ∧ c ∧ d ∧ f ∧ e := ⟨h.1, h.2.1, h.2.2.1, h.2.2.2.1, h.2.2.2.2.2, h.2.2.2.2.1⟩
theorem Ai {w : World} {p : Addr} {v : Value} (h : (w.cell? p).isSome = true) : (w.setCell p v).cell? p = some v := by
 obtain ⟨u, hu⟩ := Option.isSome_iff_exists.1 h
 exact World.cell?_setCell_same _ _ _ hu
theorem R3 {mid : Nat} {w wr : World} {k : Int} {b : Bool} {n : Int} {s : ByteArray} {l : VL} {f : FL} {v1 v2 : Value} {oz : Obj} {xs ys : List Value} {u0 u1 u2 u3 u4 u5 : Value} (hZ : wr.heap[w.heap.size + 1]? = some oz) (hD : Below w.heap.size w wr) (hm1 : w.heap.size + 2 ≤ mid) (hm2 : mid ≤ wr.heap.size) (o1 : wr.ownsRow (w.heap.size + 2) 27 6 v1 l.len xs) (d1 : ∀ g, v1.ownBlock = some g → g < mid ∧ RL wr mid wr.heap.size l g 0) (o2 : wr.ownsRow (w.heap.size + 2) 53 7 v2 f.len ys) (d2 : ∀ g, v2.ownBlock = some g → g < mid ∧ RF wr mid wr.heap.size f g 0) :
   G6 w k b n s l f (.returned (.agg #[.int .u8 k, .bool b, .int .i64 n, .string s, v1, v2])) (wr.setCells (w.heap.size + 1) 0 [u0, u1, u2, u3, u4, u5]) := by
 have hne1 := Db o1 (show w.heap.size + 1 < w.heap.size + 2 by omega)
 have hne2 := Db o2 (show w.heap.size + 1 < w.heap.size + 2 by omega)
 refine ⟨v1, v2, rfl, ⟨mid, by omega, by rw [Ay]; exact hm2, ⟨xs, DF (Cz hne1 _ _ _ o1) (by omega)⟩, ⟨ys, DF (Cz hne2 _ _ _ o2) (by omega)⟩, fun g hg => ?_, fun g hg => ?_⟩, Ag (by omega) _ _ _ hD⟩
 · obtain ⟨h1, h2⟩ := d1 g hg
   refine ⟨h1, ?_⟩
   rw [Ay]
   refine RL.of_el l g 0 fun i t ht => ?_
   exact ElV.keep t (fun m hm => Ar (fun e => hne1 (by rw [← e]; exact hg)) _ _ _ _) (fun cs hcs => RV.mid (fun b o hb _ => Ar (by omega) _ _ _ _) (Nat.le_refl _) t cs hcs) (RL.el l g 0 i t h2 ht)
 · obtain ⟨h1, h2⟩ := d2 g hg
   refine ⟨h1, ?_⟩
   rw [Ay]
   refine RF.of_el f g 0 fun i s t ht => ?_
   exact ElF.keep s t (fun m hm => Ar (fun e => hne2 (by rw [← e]; exact hg)) _ _ _ _) (fun cs hcs => RV.mid (fun b o hb _ => Ar (by omega) _ _ _ _) (Nat.le_refl _) t cs hcs) (RF.el f g 0 i s t h2 ht)
def Kn (p : Nat) (hi : Nat) (w : World) (k : Int) (b : Bool) (n : Int) (s : ByteArray) (l : VL) (f : FL) (i j : Nat) (wx : World) : Prop :=
 ∃ v1 v2 mid, wx.heap[p]? = some (.cells #[.int .u8 k, .bool b, .int .i64 n, .string s, v1, v2] 27 (0, 0)) ∧ wx.heap[p + 1]? = some (.cells #[.int .u8 0, .bool false, .int .i64 0, .string ⟨#[]⟩, .slice none 0 0, .slice none 0 0] 27 (0, 0)) ∧ Below p w wx ∧ p + 2 ≤ mid ∧ mid ≤ wx.heap.size ∧ RowV (p + 2) hi mid wx l i v1 ∧ RowF (p + 2) hi mid wx f j v2 ∧ (∀ g, v1.ownBlock = some g → v2.ownBlock = some g → False)
theorem Nm {p hi : Nat} {w wz : World} {k : Int} {b : Bool} {n : Int} {s : ByteArray} {l : VL} {f : FL} {a1 a2 av1 av2 : Option Addr} {cv1 cv2 : Nat} {xs1 xs2 : List Value} (hT : wz.heap[p]? = some (.cells #[.int .u8 k, .bool b, .int .i64 n, .string s, .slice av1 l.len cv1, .slice av2 f.len cv2] 27 (0, 0))) (hZ : wz.heap[p + 1]? = some (.cells #[.int .u8 0, .bool false, .int .i64 0, .string ⟨#[]⟩, .slice none 0 0, .slice none 0 0] 27 (0, 0)))
  (hD : Below p w wz) (hhi : hi ≤ p) (o1 : wz.ownsRow (p + 2) 27 6 (.slice av1 l.len cv1) l.len xs1) (o2 : wz.ownsRow (p + 2) 53 7 (.slice av2 f.len cv2) f.len xs2)
  (hx1 : ∀ b o, a1 = some ⟨b, o, none⟩ → ∀ j, j < l.len * 6 → xs1[j]? = w.cell? ⟨b, o + j, none⟩) (hx2 : ∀ b o, a2 = some ⟨b, o, none⟩ → ∀ j, j < f.len * 7 → xs2[j]? = w.cell? ⟨b, o + j, none⟩)
  (hl : l.len = 0 ∨ ∃ b o, a1 = some ⟨b, o, none⟩ ∧ 0 ≤ b ∧ b < hi ∧ RL w 0 hi l b o) (hf : f.len = 0 ∨ ∃ b o, a2 = some ⟨b, o, none⟩ ∧ 0 ≤ b ∧ b < hi ∧ RF w 0 hi f b o) (hne : ∀ g, (Value.slice av1 l.len cv1).ownBlock = some g → (Value.slice av2 f.len cv2).ownBlock = some g → False) : Kn p hi w k b n s l f 0 0 wz :=
 ⟨_, _, wz.heap.size, hT, hZ, hD, lt_of_block hZ, Nat.le_refl _, RowV.start o1 hx1 hl (Same.of_below (hD.mono hhi)) (fun g hg => (o1.lt g hg).2), RowF.start o2 hx2 hf (Same.of_below (hD.mono hhi)) (fun g hg => (o2.lt g hg).2), hne⟩
set_option maxHeartbeats 2000000 in
set_option maxRecDepth 100000 in
theorem PQ (N : Nat) (IH : QD N) (w : World) (k : Int) (b : Bool) (n : Int) (s : ByteArray) (l : VL) (f : FL) (a1 : Option Addr) (x1 : Nat) (a2 : Option Addr) (x2 : Nat) (hi : Nat)
  (hN : 1 + l.size + f.size ≤ N) (hhi : hi ≤ w.heap.size) (hll : l.len ≤ LIM) (hfl : f.len ≤ LIM)
  (hl : l.len = 0 ∨ ∃ b o, a1 = some ⟨b, o, none⟩ ∧ 0 ≤ b ∧ b < hi ∧ RL w 0 hi l b o) (hf : f.len = 0 ∨ ∃ b o, a2 = some ⟨b, o, none⟩ ∧ 0 ≤ b ∧ b < hi ∧ RF w 0 hi f b o) :
  Calls Tryz.prog 75 #[.agg #[.int .u8 k, .bool b, .int .i64 n, .string s, .slice a1 l.len x1, .slice a2 f.len x2]] w (G6 w k b n s l f) := by
 have HCV : Hid (∀ w' : World, Below w.heap.size w w' → w.heap.size + 2 ≤ w'.heap.size → Calls Tryz.prog 101 #[.slice a1 l.len x1] w' fun x w2 => ∃ a c xs, x = .returned (.slice a l.len c) ∧ w2.ownsRow (w.heap.size + 2) 27 6 (.slice a l.len c) l.len xs ∧ (∀ b o, a1 = some ⟨b, o, none⟩ → ∀ j, j < l.len * 6 → xs[j]? = w.cell? ⟨b, o + j, none⟩) ∧ Below w'.heap.size w' w2 ∧ ∀ g, (Value.slice a l.len c).ownBlock = some g → w'.heap.size ≤ g) := Lib.hid (fun w' hb hz => (QX w' 0 hi l a1 x1 hll (Nat.le_trans hhi hb.size) (hl.imp id fun ⟨b, o, e, h0, h1, h2⟩ => ⟨b, o, e, h0, h1, RL.keep (Same.of_below (hb.mono hhi)) (Nat.le_refl _) (Nat.le_refl _) l b o h1 h2⟩)).mono fun e w2 ⟨v, xs, h1, h2, h3, h4, h5⟩ => by
  obtain ⟨a, c, rfl⟩ := By h2
  refine ⟨a, c, xs, h1, DF h2 hz, fun b o e j hj => ?_, h4, fun g hg => (h5 g hg).1⟩
  rcases hl with h0 | ⟨b', o', e', _, hb', _⟩
  · omega
  · rw [e] at e'; cases e'
    rw [h3 b o e j hj]
    exact hb.cell (p := ⟨b, o + j, none⟩) (Nat.lt_of_lt_of_le hb' hhi))
 have HCF : Hid (∀ w' : World, Below w.heap.size w w' → w.heap.size + 2 ≤ w'.heap.size → Calls Tryz.prog 102 #[.slice a2 f.len x2] w' fun x w2 => ∃ a c xs, x = .returned (.slice a f.len c) ∧ w2.ownsRow (w.heap.size + 2) 53 7 (.slice a f.len c) f.len xs ∧ (∀ b o, a2 = some ⟨b, o, none⟩ → ∀ j, j < f.len * 7 → xs[j]? = w.cell? ⟨b, o + j, none⟩) ∧ Below w'.heap.size w' w2 ∧ ∀ g, (Value.slice a f.len c).ownBlock = some g → w'.heap.size ≤ g) := Lib.hid (fun w' hb hz => (QW w' 0 hi f a2 x2 hfl (Nat.le_trans hhi hb.size) (hf.imp id fun ⟨b, o, e, h0, h1, h2⟩ => ⟨b, o, e, h0, h1, RF.keep (Same.of_below (hb.mono hhi)) (Nat.le_refl _) (Nat.le_refl _) f b o h1 h2⟩)).mono fun e w2 ⟨v, xs, h1, h2, h3, h4, h5⟩ => by
  obtain ⟨a, c, rfl⟩ := By h2
  refine ⟨a, c, xs, h1, DF h2 hz, fun b o e j hj => ?_, h4, fun g hg => (h5 g hg).1⟩
  rcases hf with h0 | ⟨b', o', e', _, hb', _⟩
  · omega
  · rw [e] at e'; cases e'
    rw [h3 b o e j hj]
    exact hb.cell (p := ⟨b, o + j, none⟩) (Nat.lt_of_lt_of_le hb' hhi))
 have HIH := Lib.hid IH
 clear IH
 unfold LIM at hll hfl
 have HL := Lib.hid hl
 have HF := Lib.hid hf
 clear hl hf
 go_enter Tryz.func75, Tryz.ntmps75
 go_wp2_with fail
 have hT0 := Ab w (.cells #[.int .u8 k, .bool b, .int .i64 n, .string s, .slice a1 l.len x1, .slice a2 f.len x2] 27)
 have hT := Af (o := .cells #[.int .u8 0, .bool false, .int .i64 0, .string ⟨#[]⟩, .slice none 0 0, .slice none 0 0] 27) hT0
 have hZ := Ab (w.alloc (.cells #[.int .u8 k, .bool b, .int .i64 n, .string s, .slice a1 l.len x1, .slice a2 f.len x2] 27)) (.cells #[.int .u8 0, .bool false, .int .i64 0, .string ⟨#[]⟩, .slice none 0 0, .slice none 0 0] 27)
 have esz : (w.alloc (.cells #[.int .u8 k, .bool b, .int .i64 n, .string s, .slice a1 l.len x1, .slice a2 f.len x2] 27)).heap.size = w.heap.size + 1 := by simp
 rw [esz] at hZ
 have hD := Aj (w := w) (.cells #[.int .u8 k, .bool b, .int .i64 n, .string s, .slice a1 l.len x1, .slice a2 f.len x2] 27) (.cells #[.int .u8 0, .bool false, .int .i64 0, .string ⟨#[]⟩, .slice none 0 0, .slice none 0 0] 27)
 generalize (w.alloc (.cells #[.int .u8 k, .bool b, .int .i64 n, .string s, .slice a1 l.len x1, .slice a2 f.len x2] 27)).alloc (.cells #[.int .u8 0, .bool false, .int .i64 0, .string ⟨#[]⟩, .slice none 0 0, .slice none 0 0] 27) = W at *
 have lZ := lt_of_block hZ
 have lT := lt_of_block hT
 clear hT0 esz
 go_cut [2] (fun s2 wx => s2 = .pointer (some ⟨w.heap.size + 1, 0, none⟩) ∧ Kn w.heap.size hi w k b n s l f 0 0 wx)
 case first =>
  obtain ⟨t0, t1, t2, t3, t4, t5, t6⟩ := Ae hT
  have hWz : w.heap.size + 2 ≤ W.drew.heap.size := lZ
  have hTd : W.drew.heap[w.heap.size]? = some (.cells #[.int .u8 k, .bool b, .int .i64 n, .string s, .slice a1 l.len x1, .slice a2 f.len x2] 27 (0, 0)) := hT
  have hZd : W.drew.heap[w.heap.size + 1]? = some (.cells #[.int .u8 0, .bool false, .int .i64 0, .string ⟨#[]⟩, .slice none 0 0, .slice none 0 0] 27 (0, 0)) := hZ
  go_region_with (first | (go_at_call 101; refine (HCV.out _ (by first | with_reducible exact hD.drew | with_reducible exact Aa hD.drew hD.drew.size hb2) (by first | with_reducible exact hWz | with_reducible exact Nat.le_trans hWz hb2.size)).mono ?_; rintro e w7 ⟨av1, cv1, xs1, rfl, hown1, hx1, hb1, hg1⟩; have hT7 : w7.heap[w.heap.size]? = some (.cells #[.int .u8 k, .bool b, .int .i64 n, .string s, .slice a1 l.len x1, .slice a2 f.len x2] 27 (0, 0)) := (by first | with_reducible exact blk hb1 hTd | with_reducible exact blk hb1 hT8); have hZ7 : w7.heap[w.heap.size + 1]? = some (.cells #[.int .u8 0, .bool false, .int .i64 0, .string ⟨#[]⟩, .slice none 0 0, .slice none 0 0] 27 (0, 0)) := (by first | with_reducible exact blk hb1 hZd | with_reducible exact blk hb1 hZ8); obtain ⟨c70, c71, c72, c73, c74, c75, c76⟩ := Ae hT7) | (go_at_call 102; refine (HCF.out _ (by first | with_reducible exact hD.drew | with_reducible exact Aa hD.drew hD.drew.size hb1) (by first | with_reducible exact hWz | with_reducible exact Nat.le_trans hWz hb1.size)).mono ?_; rintro e w8 ⟨av2, cv2, xs2, rfl, hown2, hx2, hb2, hg2⟩; have hT8 : w8.heap[w.heap.size]? = some (.cells #[.int .u8 k, .bool b, .int .i64 n, .string s, .slice a1 l.len x1, .slice a2 f.len x2] 27 (0, 0)) := (by first | with_reducible exact blk hb2 hTd | with_reducible exact blk hb2 hT7); have hZ8 : w8.heap[w.heap.size + 1]? = some (.cells #[.int .u8 0, .bool false, .int .i64 0, .string ⟨#[]⟩, .slice none 0 0, .slice none 0 0] 27 (0, 0)) := (by first | with_reducible exact blk hb2 hZd | with_reducible exact blk hb2 hZ7); obtain ⟨c80, c81, c82, c83, c84, c85, c86⟩ := Ae hT8))
  all_goals (go_wp2_with fail; go_meet)
  all_goals
    first
    | (have hTx := hT8; have hZx := hZ8; have hDx := Aa hD.drew hD.drew.size hb1; have hDy := Aa hDx hDx.size hb2; have hox1 := AM hown1 hb2; have hox2 := hown2; have hne : ∀ g, (Value.slice av1 l.len cv1).ownBlock = some g → (Value.slice av2 f.len cv2).ownBlock = some g → False := fun g e1 e2 => absurd (hown1.lt g e1).2 (Nat.not_lt.2 (hg2 g e2)))
    | (have hTx := hT7; have hZx := hZ7; have hDx := Aa hD.drew hD.drew.size hb2; have hDy := Aa hDx hDx.size hb1; have hox1 := hown1; have hox2 := AM hown2 hb1; have hne : ∀ g, (Value.slice av1 l.len cv1).ownBlock = some g → (Value.slice av2 f.len cv2).ownBlock = some g → False := fun g e1 e2 => absurd (hown2.lt g e2).2 (Nat.not_lt.2 (hg1 g e1)))
  all_goals
    refine ⟨rfl, Nm (av1 := av1) (av2 := av2) (cv1 := cv1) (cv2 := cv2) ?_ (B9 (by omega) (B9 (by omega) hZx)) ((hDy.setCell (p := ⟨_, _, none⟩) (by simp) _).setCell (p := ⟨_, _, none⟩) (by simp) _) hhi (Cq (Cq hox1 (Db hox1 (by omega))) (Db hox1 (by omega))) (Cq (Cq hox2 (Db hox2 (by omega))) (Db hox2 (by omega))) hx1 hx2 HL.out HF.out hne⟩
    first
    | exact heap_setCell_same _ _ 5 _ _ _ (heap_setCell_same _ _ 4 _ _ _ hTx)
    | exact heap_setCell_same _ _ 4 _ _ _ (heap_setCell_same _ _ 5 _ _ _ hTx)
 case rest =>
  obtain ⟨rfl, hB⟩ := hcut
  clear HCV HCF hT hZ hD lZ lT HL HF
  obtain ⟨v1, v2, mid, hT, hZ, hD, hm1, hm2, hr1, hr2, hne⟩ := hB
  obtain ⟨⟨ys1, ho1⟩, hrow1⟩ := hr1
  obtain ⟨⟨ys2, ho2⟩, hrow2⟩ := hr2
  obtain ⟨av1, cv1, rfl⟩ := By ho1
  obtain ⟨av2, cv2, rfl⟩ := By ho2
  have hr1 : RowV (w.heap.size + 2) hi mid wc l 0 (.slice av1 l.len cv1) := ⟨⟨ys1, ho1⟩, hrow1⟩
  have hr2 : RowF (w.heap.size + 2) hi mid wc f 0 (.slice av2 f.len cv2) := ⟨⟨ys2, ho2⟩, hrow2⟩
  clear ho1 ho2 hrow1 hrow2
  obtain ⟨t0, t1, t2, t3, t4, t5, t6⟩ := Ae hT
  go_upto_block 0 with (fail)
  go_cut [2] (fun s2 wx => s2 = .pointer (some ⟨w.heap.size + 1, 0, none⟩) ∧ Kn w.heap.size hi w k b n s l f l.len 0 wx)
  case first =>
    go_wp2_with fail
    go_loopw [16] (fun s16 wr => ∃ i : Nat, s16 = .int .i64 i ∧ i ≤ l.len ∧ wr.heap[w.heap.size]? = some (.cells #[.int .u8 k, .bool b, .int .i64 n, .string s, .slice av1 l.len cv1, .slice av2 f.len cv2] 27 (0, 0)) ∧ wr.heap[w.heap.size + 1]? = some (.cells #[.int .u8 0, .bool false, .int .i64 0, .string ⟨#[]⟩, .slice none 0 0, .slice none 0 0] 27 (0, 0)) ∧ Below w.heap.size w wr ∧ mid ≤ wr.heap.size ∧ RowV (w.heap.size + 2) hi mid wr l i (.slice av1 l.len cv1) ∧ RowF (w.heap.size + 2) hi mid wr f 0 (.slice av2 f.len cv2)) (fun s16 _ => l.len - (intOf s16).toNat)
    case atStart => exact ⟨0, rfl, Nat.zero_le _, hT, hZ, hD, hm2, hr1, hr2⟩
    case round =>
      clear hT hZ hD hm2 hr1 hr2 t0 t1 t2 t3 t4 t5 t6
      obtain ⟨i, rfl, hil, hT, hZ, hD, hm2, hr1, hr2⟩ := hrel
      obtain ⟨t0, t1, t2, t3, t4, t5, t6⟩ := Ae hT
      by_cases hlt : i < l.len
      · obtain ⟨⟨ys1, ho1⟩, hrow1⟩ := hr1
        rcases C7 ho1 with ⟨e, e0⟩ | ⟨g, cap, e, hcap, hBg, hgs⟩
        · omega
        cases e
        obtain ⟨t, ht⟩ := VL.get?_lt l i hlt
        obtain ⟨v0, v1, v2, v3, v4, v5, e0, e1, e2, e3, e4, e5, hv⟩ := ((hrow1 g rfl).2 i t ht).2 (Nat.lt_irrefl _)
        obtain ⟨pk, pb, pn, ps, pa1, pl1, pc1, pa2, pl2, pc2, rfl, rfl, rfl, rfl, rfl, rfl⟩ := RV.open6 hv
        simp only [Nat.zero_add] at e0 e1 e2 e3 e4 e5
        have hfz := ho1.frozenAt
        have HC := Lib.hid (fun (w' : World) (hb : Below wr.heap.size wr w') => (HIH.out t (by have := VL.get?_size l i t ht; omega) w' _ hi (RV.below hv (hb.mono (by have := hD.size; omega))) (by have := hb.size; have := hD.size; omega)).mono fun e w2 h => OwnT.reads (RV.below hv (hb.mono (by have := hD.size; omega))) h)
        have HR1 := Lib.hid (show RowV (w.heap.size + 2) hi mid wr l i (.slice (some ⟨g, 0, none⟩) l.len cv1) from ⟨⟨ys1, ho1⟩, hrow1⟩)
        have HR2 := Lib.hid hr2
        have HT := Lib.hid ht
        have HD := Lib.hid hD
        have HNE := Lib.hid hne
        have HO := Lib.hid ho1
        clear hrow1 ho1 hv ht hr2 hD hne
        go_upto_region 5 with (fail)
        have hbd := (Below.refl wr.heap.size wr).drew
        have HBD := Lib.hid hbd
        go_region_with ((go_at_call 75; refine (HC.out _ (by with_reducible exact hbd)).mono ?_; rintro e w7 ⟨k7, b7, n7, s7, a71, l71, c71, a72, l72, c72, rfl, hv7, hb⟩; have hB7 := Aa HBD.out HBD.out.size hb; have hfz7 : ∀ j, w7.frozen? ⟨g, j, none⟩ = false := (fun j => (hB7.frozen (p := ⟨g, j, none⟩) hgs).trans (hfz j)); have hc74 := Ac hB7 t4; have hd0 := Ac hB7 e0; have hd1 := Ac hB7 e1; have hd2 := Ac hB7 e2; have hd3 := Ac hB7 e3; have hd4 := Ac hB7 e4; have hd5 := Ac hB7 e5))
        all_goals
          go_wp2_with fail
          go_roundw
          case rel => exact ⟨i + 1, by go_num, by omega, R7 hT hZ HD.out hhi hm1 hm2 HR1.out HR2.out (fun e => HNE.out g rfl e) HT.out hB7 hv7⟩
          case measure => simp [intOf]; omega
      · have hie : i = l.len := by omega
        rw [hie] at hr1
        have HI := Lib.hid hie
        clear hie
        go_wp2_with fail
        go_meet
        exact ⟨rfl, .slice av1 l.len cv1, .slice av2 f.len cv2, mid, hT, hZ, hD, hm1, hm2, hr1, hr2, hne⟩
  case rest =>
    obtain ⟨rfl, hB⟩ := hcut
    clear hT hZ hD hm1 hm2 hr1 hr2 hne t0 t1 t2 t3 t4 t5 t6
    obtain ⟨v1, v2, mid, hT, hZ, hD, hm1, hm2, hr1, hr2, hne⟩ := hB
    obtain ⟨⟨ys1, ho1⟩, hrow1⟩ := hr1
    obtain ⟨⟨ys2, ho2⟩, hrow2⟩ := hr2
    obtain ⟨av1, cv1, rfl⟩ := By ho1
    obtain ⟨av2, cv2, rfl⟩ := By ho2
    have hr1 : RowV (w.heap.size + 2) hi mid wc l l.len (.slice av1 l.len cv1) := ⟨⟨ys1, ho1⟩, hrow1⟩
    have hr2 : RowF (w.heap.size + 2) hi mid wc f 0 (.slice av2 f.len cv2) := ⟨⟨ys2, ho2⟩, hrow2⟩
    clear ho1 ho2 hrow1 hrow2
    obtain ⟨t0, t1, t2, t3, t4, t5, t6⟩ := Ae hT
    go_wp2_with fail
    go_loopw [33] (fun s33 wr => ∃ i : Nat, s33 = .int .i64 i ∧ i ≤ f.len ∧ wr.heap[w.heap.size]? = some (.cells #[.int .u8 k, .bool b, .int .i64 n, .string s, .slice av1 l.len cv1, .slice av2 f.len cv2] 27 (0, 0)) ∧ wr.heap[w.heap.size + 1]? = some (.cells #[.int .u8 0, .bool false, .int .i64 0, .string ⟨#[]⟩, .slice none 0 0, .slice none 0 0] 27 (0, 0)) ∧ Below w.heap.size w wr ∧ mid ≤ wr.heap.size ∧ RowV (w.heap.size + 2) hi mid wr l l.len (.slice av1 l.len cv1) ∧ RowF (w.heap.size + 2) hi mid wr f i (.slice av2 f.len cv2)) (fun s33 _ => f.len - (intOf s33).toNat)
    case atStart => exact ⟨0, rfl, Nat.zero_le _, hT, hZ, hD, hm2, hr1, hr2⟩
    case round =>
      clear hT hZ hD hm2 hr1 hr2 t0 t1 t2 t3 t4 t5 t6
      obtain ⟨i, rfl, hil, hT, hZ, hD, hm2, hr1, hr2⟩ := hrel
      obtain ⟨t0, t1, t2, t3, t4, t5, t6⟩ := Ae hT
      by_cases hlt : i < f.len
      · obtain ⟨⟨ys1, ho1⟩, hrow1⟩ := hr2
        rcases C7 ho1 with ⟨e, e0⟩ | ⟨g, cap, e, hcap, hBg, hgs⟩
        · omega
        cases e
        obtain ⟨⟨s', t⟩, ht⟩ := FL.get?_lt f i hlt
        obtain ⟨en, hsn, v0, v1, v2, v3, v4, v5, e0, e1, e2, e3, e4, e5, hv⟩ := ((hrow1 g rfl).2 i s' t ht).2 (Nat.lt_irrefl _)
        obtain ⟨pk, pb, pn, ps, pa1, pl1, pc1, pa2, pl2, pc2, rfl, rfl, rfl, rfl, rfl, rfl⟩ := RV.open6 hv
        simp only [Nat.zero_add] at e0 e1 e2 e3 e4 e5
        have hfz := ho1.frozenAt
        have HC := Lib.hid (fun (w' : World) (hb : Below wr.heap.size wr w') => (HIH.out t (by have := FL.get?_size f i s' t ht; omega) w' _ hi (RV.below hv (hb.mono (by have := hD.size; omega))) (by have := hb.size; have := hD.size; omega)).mono fun e w2 h => OwnT.reads (RV.below hv (hb.mono (by have := hD.size; omega))) h)
        have HR1 := Lib.hid hr1
        have HR2 := Lib.hid (show RowF (w.heap.size + 2) hi mid wr f i (.slice (some ⟨g, 0, none⟩) f.len cv2) from ⟨⟨ys1, ho1⟩, hrow1⟩)
        have HT := Lib.hid ht
        have HD := Lib.hid hD
        have HNE := Lib.hid hne
        have HO := Lib.hid ho1
        clear hrow1 ho1 hv ht hr1 hD hne en
        go_upto_region 10 with (fail)
        have hbd := (Below.refl wr.heap.size wr).drew
        have HBD := Lib.hid hbd
        go_region_with ((go_at_call 75; refine (HC.out _ (by with_reducible exact hbd)).mono ?_; rintro e w7 ⟨k7, b7, n7, s7, a71, l71, c71, a72, l72, c72, rfl, hv7, hb⟩; have hB7 := Aa HBD.out HBD.out.size hb; have hfz7 : ∀ j, w7.frozen? ⟨g, j, none⟩ = false := (fun j => (hB7.frozen (p := ⟨g, j, none⟩) hgs).trans (hfz j)); have hc74 := Ac hB7 t5; have hd0 := Ac hB7 e0; have hd1 := Ac hB7 e1; have hd2 := Ac hB7 e2; have hd3 := Ac hB7 e3; have hd4 := Ac hB7 e4; have hd5 := Ac hB7 e5))
        all_goals
          go_wp2_with fail
          go_roundw
          case rel => exact ⟨i + 1, by go_num, by omega, OH (R6 hT hZ HD.out hhi hm1 hm2 HR2.out HR1.out (fun e => HNE.out g e rfl) HT.out hB7 hv7)⟩
          case measure => simp [intOf]; omega
      · have hie : i = f.len := by omega
        rw [hie] at hr2
        clear hie
        obtain ⟨ox1, hd1⟩ := RowV.done hr1
        obtain ⟨ox2, hd2⟩ := RowF.done hr2
        have HO1 := Lib.hid (And.intro ox1 hd1)
        have HO2 := Lib.hid (And.intro ox2 hd2)
        have HDD := Lib.hid (And.intro hD (And.intro hm1 hm2))
        obtain ⟨z0, z1, z2, z3, z4, z5, z6⟩ := Ae hZ
        clear ox1 ox2 hd1 hd2 hr1 hr2 hne hD hm1 hm2
        go_wp2_with fail
        refine bodyPost_ret (v := .agg #[.int .u8 k, .bool b, .int .i64 n, .string s, .slice av1 l.len cv1, .slice av2 f.len cv2]) (by simp [results, Tryz.results75, go_sem, Ai, z0, z1, z2, z3, z4, z5]) rfl ?_
        obtain ⟨⟨xs1, o1⟩, d1⟩ := HO1.out
        obtain ⟨⟨xs2, o2⟩, d2⟩ := HO2.out
        obtain ⟨hD, hm1, hm2⟩ := HDD.out
        exact R3 hZ hD hm1 hm2 o1 d1 o2 d2
theorem R2 : ∀ (N : Nat), QD N := by
 intro N
 induction N with
 | zero => intro t ht; omega
 | succ N ih =>
   intro t ht w cs hi hv hhi
   cases t with
   | mk k b n s l f =>
     unfold RV at hv
     obtain ⟨a1, c1, a2, c2, rfl, hk, hn, hsz, hl, hf, hc1, hc2, hL, hF⟩ := hv
     exact PQ N ih w k b n s l f a1 c1 a2 c2 hi (by unfold VT.size at ht; omega) hhi hl hf hL hF
theorem Mq (t : VT) (w : World) (cs : List Value) (hi : Nat) (hv : RV w 0 hi t cs) (hhi : hi ≤ w.heap.size) : Calls Tryz.prog 75 #[.agg cs.toArray] w (OwnT w t) :=
 R2 (t.size + 1) t (Nat.lt_succ_self _) w cs hi hv hhi
theorem JB (t : VT) (w : World) (cs : List Value) (hi : Nat) (hv : RV w 0 hi t cs) (hhi : hi ≤ w.heap.size) : Calls Tryz.prog 75 #[.agg cs.toArray] w fun x w' =>
  ∃ (k : Int) (b : Bool) (n : Int) (s : ByteArray) (a1 : Option Addr) (l1 c1 : Nat) (a2 : Option Addr) (l2 c2 : Nat), x = .returned (.agg #[.int .u8 k, .bool b, .int .i64 n, .string s, .slice a1 l1 c1, .slice a2 l2 c2]) ∧ RV w' w.heap.size w'.heap.size t [.int .u8 k, .bool b, .int .i64 n, .string s, .slice a1 l1 c1, .slice a2 l2 c2] ∧ Below w.heap.size w w' :=
 (Mq t w cs hi hv hhi).mono fun x w' h => OwnT.reads hv h
end Go.Proofs.YtbemgcjckchdjaaGreatDoor
