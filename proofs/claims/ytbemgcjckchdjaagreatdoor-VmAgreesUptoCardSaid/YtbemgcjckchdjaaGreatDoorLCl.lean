import Derived.Test.YtbemgcjckchdjaaGreatDoorLCa
import Derived.Test.YtbemgcjckchdjaaGreatDoorLGf
import Derived.Test.YtbemgcjckchdjaaGreatDoorLGg
import Derived.Test.YtbemgcjckchdjaaGreatDoorLGd
/- Checked programs: how high the stack stands at every place (plain Lean). -/
namespace Go.Proofs.YtbemgcjckchdjaaGreatDoor
open Go.RowKit
set_option linter.unusedSimpArgs false
set_option linter.unusedVariables false
def Ext (h h' : HT) : Prop := ∀ a v, h a = some v → h' a = some v
theorem Ext.refl (h : HT) : Ext h h := fun _ _ e => e
theorem Ext.trans {a b c : HT} (h : Ext a b) (k : Ext b c) : Ext a c := fun x v e => k x v (h x v e)
theorem Ej {h : HT} {a v : Int} (hc : (AN h a v).2 = true) : Ext h (AN h a v).1 ∧ (AN h a v).1 a = some v := by
 unfold AN at hc ⊢
 refine ⟨fun x u e => ?_, by show BR h a v a = _; unfold BR; rw [if_pos rfl]⟩
 show BR h a v x = some u
 unfold BR
 by_cases hx : x = a
 · subst hx
   rw [if_pos rfl]
   rw [e] at hc
   have : u = v := by simpa using hc
   rw [this]
 · rw [if_neg hx]; exact e
def StepOK (n : Nat) (x : IT) (i : Nat) (h : HT) : Prop := ∃ ht, h i = some ht ∧
 ((x.op = 1 ∧ x.s.ok = true ∧ x.s.k < 21 ∧ x.s.takes ≤ ht ∧ h ((i : Int) + 1) = some (ht - x.s.takes + 1)) ∨
  ((x.op = 2 ∨ x.op = 4) ∧ (i : Int) < x.tgt ∧ x.tgt ≤ (n : Int) ∧ h x.tgt = some ht ∧ 1 ≤ ht ∧ h ((i : Int) + 1) = some (if x.op = 2 then ht - 1 else ht)) ∨
  (x.op = 3 ∧ 1 ≤ ht ∧ h ((i : Int) + 1) = some ht) ∨
  (x.op = 5 ∧ 2 ≤ ht ∧ h ((i : Int) + 1) = some (ht - 1)))
theorem StepOK.ext {n : Nat} {x : IT} {i : Nat} {h h' : HT} (k : StepOK n x i h) (e : Ext h h') : StepOK n x i h' := by
 obtain ⟨ht, h1, h2⟩ := k
 refine ⟨ht, e _ _ h1, ?_⟩
 rcases h2 with ⟨a, b, c, d, f⟩ | ⟨a, b, c, d, f, g⟩ | ⟨a, b, c⟩ | ⟨a, b, c⟩
 · exact Or.inl ⟨a, b, c, d, e _ _ f⟩
 · exact Or.inr (Or.inl ⟨a, b, c, e _ _ d, f, e _ _ g⟩)
 · exact Or.inr (Or.inr (Or.inl ⟨a, b, e _ _ c⟩))
 · exact Or.inr (Or.inr (Or.inr ⟨a, b, e _ _ c⟩))
theorem P1 {c : Bool} {a b : HT} (h : (if c = true then some a else none) = some b) : c = true ∧ a = b := by
 cases c with
 | true => exact ⟨rfl, Option.some.inj h⟩
 | false => cases h
theorem RG {n : Nat} {x : IT} {i : Nat} {h0 h1 : HT} (h : AE n x i h0 = some h1) : Ext h0 h1 ∧ StepOK n x i h1 := by
 unfold AE at h
 cases hi : h0 (i : Int) with
 | none => rw [hi] at h; cases h
 | some ht =>
   rw [hi] at h
   dsimp only at h
   by_cases c1 : x.op = 1
   · rw [if_pos c1] at h
     split at h
     · rename_i hb
       cases h
       simp only [Bool.and_eq_true, decide_eq_true_eq] at hb
       obtain ⟨⟨⟨⟨b1, b2⟩, b3⟩, b4⟩, b5⟩ := hb
       obtain ⟨e1, e2⟩ := Ej b5
       exact ⟨e1, ht, e1 _ _ hi, Or.inl ⟨c1, b1, b2, b4, e2⟩⟩
     · cases h
   rw [if_neg c1] at h
   by_cases c2 : x.op = 2 ∨ x.op = 4
   · rw [if_pos c2] at h
     obtain ⟨hb, rfl⟩ := P1 h
     simp only [Bool.and_eq_true, decide_eq_true_eq] at hb
     obtain ⟨⟨⟨⟨⟨b1, b2⟩, b3⟩, b4⟩, b5⟩, b6⟩ := hb
     obtain ⟨e1, e2⟩ := Ej b3
     obtain ⟨e3, e4⟩ := Ej b6
     exact ⟨e1.trans e3, ht, e3 _ _ (e1 _ _ hi), Or.inr (Or.inl ⟨c2, b1, b2, e3 _ _ e2, b5, e4⟩)⟩
   rw [if_neg c2] at h
   by_cases c3 : x.op = 3
   · rw [if_pos c3] at h
     split at h
     · rename_i hb
       cases h
       simp only [Bool.and_eq_true, decide_eq_true_eq] at hb
       obtain ⟨⟨⟨b1, b2⟩, b3⟩, b4⟩ := hb
       obtain ⟨e1, e2⟩ := Ej b4
       exact ⟨e1, ht, e1 _ _ hi, Or.inr (Or.inr (Or.inl ⟨c3, b3, e2⟩))⟩
     · cases h
   rw [if_neg c3] at h
   by_cases c5 : x.op = 5
   · rw [if_pos c5] at h
     split at h
     · rename_i hb
       cases h
       simp only [Bool.and_eq_true, decide_eq_true_eq] at hb
       obtain ⟨⟨⟨b1, b2⟩, b3⟩, b4⟩ := hb
       obtain ⟨e1, e2⟩ := Ej b4
       exact ⟨e1, ht, e1 _ _ hi, Or.inr (Or.inr (Or.inr ⟨c5, b3, e2⟩))⟩
     · cases h
   rw [if_neg c5] at h
   cases h
theorem QF {n : Nat} : ∀ (p : List IT) (i : Nat) (h0 hF : HT), goK n p i h0 = some hF → Ext h0 hF ∧ ∀ j (hj : j < p.length), StepOK n p[j] (i + j) hF
 | [], i, h0, hF, h => by
   unfold goK at h
   cases h
   exact ⟨Ext.refl _, fun j hj => absurd hj (Nat.not_lt_zero _)⟩
 | x :: r, i, h0, hF, h => by
   unfold goK at h
   cases hs : AE n x i h0 with
   | none => rw [hs] at h; cases h
   | some h1 =>
     rw [hs] at h
     dsimp only at h
     obtain ⟨a1, a2⟩ := RG hs
     obtain ⟨b1, b2⟩ := QF r (i + 1) h1 hF h
     refine ⟨a1.trans b1, fun j hj => ?_⟩
     cases j with
     | zero => exact a2.ext b1
     | succ j =>
       have := b2 j (by simpa using hj)
       rwa [show i + 1 + j = i + (j + 1) by omega] at this
def Ed (p : List IT) (h : HT) : Prop := h 0 = some 0 ∧ h p.length = some 1 ∧ ∀ j (hj : j < p.length), StepOK p.length p[j] j h
theorem Ip {p : List IT} (h : AL p = 0) : 1 ≤ p.length ∧ p.length ≤ 256 ∧ ∃ hF, Ed p hF := by
 unfold AL at h
 by_cases hl : 1 ≤ p.length ∧ p.length ≤ 256
 · rw [if_pos hl] at h
   refine ⟨hl.1, hl.2, ?_⟩
   cases hg : goK p.length p 0 H0 with
   | none => rw [hg] at h; cases h
   | some hF =>
     rw [hg] at h
     dsimp only at h
     obtain ⟨a, b⟩ := QF p 0 H0 hF hg
     by_cases hn : hF p.length = some 1
     · refine ⟨hF, a 0 0 (by unfold H0 BR; rw [if_pos rfl]), hn, fun j hj => ?_⟩
       have := b j hj
       rwa [Nat.zero_add] at this
     · rw [if_neg hn] at h; cases h
 · rw [if_neg hl] at h; cases h
def At (p : List IT) (h : HT) (i : Nat) (vs : List VT) : Prop := h i = some (vs.length : Int) ∧ i ≤ p.length ∧ vs.length ≤ i
theorem Kw {p : List IT} {h : HT} (hH : Ed p h) : At p h 0 [] := ⟨hH.1, Nat.zero_le _, Nat.le_refl _⟩
theorem SI {p : List IT} {h : HT} (hH : Ed p h) {i : Nat} {vs : List VT} (ha : At p h i vs) (hi : i < p.length) :
   (p[i].op = 1 ∧ p[i].s.ok = true ∧ p[i].s.k < 21 ∧ p[i].s.takes ≤ (vs.length : Int)) ∨ ((p[i].op = 2 ∨ p[i].op = 4) ∧ (i : Int) < p[i].tgt ∧ p[i].tgt ≤ (p.length : Int) ∧ 1 ≤ vs.length) ∨ (p[i].op = 3 ∧ 1 ≤ vs.length) ∨ (p[i].op = 5 ∧ 2 ≤ vs.length) := by
 obtain ⟨ht, h1, h2⟩ := hH.2.2 i hi
 obtain ⟨a1, a2, a3⟩ := ha
 rw [a1] at h1
 cases h1
 rcases h2 with ⟨a, b, c, d, f⟩ | ⟨a, b, c, d, f, g⟩ | ⟨a, b, c⟩ | ⟨a, b, c⟩
 · exact Or.inl ⟨a, b, c, d⟩
 · exact Or.inr (Or.inl ⟨a, b, c, by omega⟩)
 · exact Or.inr (Or.inr (Or.inl ⟨a, by omega⟩))
 · exact Or.inr (Or.inr (Or.inr ⟨a, by omega⟩))
theorem Me {p : List IT} {h : HT} (hH : Ed p h) {i : Nat} {vs : List VT} (ha : At p h i vs) (hi : i < p.length) (row : VT) (htk : ∀ s : ST, s.ok = true → 0 ≤ s.takes) :
   ∃ j : Nat, (opR row p[i] vs ((i : Int) + 1)).2.2 = (j : Int) ∧ i < j ∧ At p h j (opR row p[i] vs ((i : Int) + 1)).2.1 := by
 obtain ⟨ht, h1, h2⟩ := hH.2.2 i hi
 obtain ⟨a1, a2, a3⟩ := ha
 rw [a1] at h1
 cases h1
 have e1 : ((i : Int) + 1) = ((i + 1 : Nat) : Int) := by omega
 rcases h2 with ⟨a, b, c, d, f⟩ | ⟨a, b, c, d, f, g⟩ | ⟨a, b, c⟩ | ⟨a, b, c⟩
 · have h0 := htk _ b
   refine ⟨i + 1, ?_, by omega, ?_⟩
   · unfold opR; rw [if_pos a]; exact e1
   · unfold opR; rw [if_pos a]
     rw [e1] at f
     refine ⟨f.trans ?_, by omega, ?_⟩
     · dsimp only; rw [List.length_append, List.length_take]; simp only [List.length_cons, List.length_nil]; congr 1; omega
     · dsimp only; rw [List.length_append, List.length_take]; simp only [List.length_cons, List.length_nil]; omega
 · rcases a with a | a
   · have n1 : ¬ p[i].op = 1 := by omega
     rw [if_pos a, e1] at g
     obtain ⟨j, hj⟩ : ∃ j : Nat, p[i].tgt = (j : Int) := ⟨p[i].tgt.toNat, by omega⟩
     unfold opR
     rw [if_neg n1, if_pos a]
     dsimp only
     cases (Bz vs).bool with
     | true =>
       refine ⟨i + 1, e1, by omega, ?_⟩
       refine ⟨g.trans ?_, by omega, ?_⟩
       · rw [if_pos rfl, List.length_take]; congr 1; omega
       · rw [if_pos rfl, List.length_take]; omega
     | false =>
       rw [hj] at b c d
       refine ⟨j, hj, by omega, ?_⟩
       exact ⟨d, by omega, by simp only [Bool.false_eq_true, if_false]; omega⟩
   · have n1 : ¬ p[i].op = 1 := by omega
     have n2 : ¬ p[i].op = 2 := by omega
     rw [if_neg n2, e1] at g
     obtain ⟨j, hj⟩ : ∃ j : Nat, p[i].tgt = (j : Int) := ⟨p[i].tgt.toNat, by omega⟩
     unfold opR
     rw [if_neg n1, if_neg n2, if_pos a]
     dsimp only
     cases (Bz vs).bool with
     | true =>
       rw [hj] at b c d
       exact ⟨j, hj, by omega, d, by omega, by omega⟩
     | false => exact ⟨i + 1, e1, by omega, g, by omega, by omega⟩
 · have n1 : ¬ p[i].op = 1 := by omega
   have n2 : ¬ p[i].op = 2 := by omega
   have n4 : ¬ p[i].op = 4 := by omega
   unfold opR
   rw [if_neg n1, if_neg n2, if_neg n4, if_pos a]
   rw [e1] at c
   exact ⟨i + 1, e1, by omega, c, by omega, by dsimp only; omega⟩
 · have n1 : ¬ p[i].op = 1 := by omega
   have n2 : ¬ p[i].op = 2 := by omega
   have n4 : ¬ p[i].op = 4 := by omega
   have n3 : ¬ p[i].op = 3 := by omega
   unfold opR
   rw [if_neg n1, if_neg n2, if_neg n4, if_neg n3]
   rw [e1] at c
   refine ⟨i + 1, e1, by omega, c.trans ?_, by omega, ?_⟩
   · dsimp only; rw [List.length_append, List.length_take]; simp only [List.length_cons, List.length_nil]; congr 1; omega
   · dsimp only; rw [List.length_append, List.length_take]; simp only [List.length_cons, List.length_nil]; omega
/- An instruction of a checked program, by the map of function values. -/
theorem LA (p : List IT) (hF : HT) (i : Nat) (vs : List VT) (hH : Ed p hF) (hlen : p.length ≤ 256) (ha : At p hF i vs) (hi : i < p.length) (hst : ∀ x ∈ p, Be x.s) (M hi' : Nat) (row : VT) (c : Nat) (f : Int) (w w0 : World) (hM : Mach M hi' w row vs c f ((i : Int) + 1)) (hc : c ≤ maxLen) (hL : Laid w0) (hbw : Below w0.heap.size w0 w) (hM0 : w0.heap.size ≤ M) :
   ∃ n, opF p[i].op = some n ∧ (∀ (args : Array Value) (w : World), (callFunc n args).run Tryz.prog w = .ok (.enter n args) w) ∧ Calls Tryz.prog n #[.pointer (some ⟨M, 0, none⟩), IW p[i]] w (MOp M row (opR row p[i] vs ((i : Int) + 1)).2.1 f (opR row p[i] vs ((i : Int) + 1)).2.2 (opR row p[i] vs ((i : Int) + 1)).1 w) := by
 have hvl : vs.length ≤ 1000 := by have := ha.2.2; omega
 rcases SI hH ha hi with ⟨a, b, c', d⟩ | ⟨a, b, c', d⟩ | ⟨a, b⟩ | ⟨a, b⟩
 · refine ⟨45, by rw [a]; rfl, fun args w => Tryz.call45 args w, ?_⟩
   have := LG M hi' row vs c f ((i : Int) + 1) p[i] w w0 hM d hvl hc (hst _ (List.getElem_mem hi)) b c' hL hbw hM0
   unfold opR
   rw [if_pos a]
   exact this
 · rcases a with a | a
   · refine ⟨46, by rw [a]; rfl, fun args w => Tryz.call46 args w, ?_⟩
     have := MO M hi' row vs c f ((i : Int) + 1) p[i] w hM d hvl hc _ _ (Lib.hid rfl) (Lib.hid rfl)
     unfold opR
     rw [if_neg (by omega), if_pos a]
     exact this
   · refine ⟨47, by rw [a]; rfl, fun args w => Tryz.call47 args w, ?_⟩
     have := NU M hi' row vs c f ((i : Int) + 1) p[i] w hM d hvl hc vs _ (Lib.hid rfl) (Lib.hid rfl)
     unfold opR
     rw [if_neg (by omega), if_neg (by omega), if_pos a]
     exact this
 · refine ⟨48, by rw [a]; rfl, fun args w => Tryz.call48 args w, ?_⟩
   have := LE M hi' row vs c f ((i : Int) + 1) p[i] w hM b hvl hc
   unfold opR
   rw [if_neg (by omega), if_neg (by omega), if_neg (by omega), if_pos a]
   exact this
 · refine ⟨49, by rw [a]; rfl, fun args w => Tryz.call49 args w, ?_⟩
   obtain ⟨x, y, h1, h2, h3⟩ := Pt vs b
   have := LF M hi' row vs c f ((i : Int) + 1) p[i] w x y hM b hvl hc h1
   unfold opR
   rw [if_neg (by omega), if_neg (by omega), if_neg (by omega), if_neg (by omega), h2, h3]
   exact this
end Go.Proofs.YtbemgcjckchdjaaGreatDoor
