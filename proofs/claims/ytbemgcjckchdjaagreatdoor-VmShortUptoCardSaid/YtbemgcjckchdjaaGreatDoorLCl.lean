import Derived.Test.YtbemgcjckchdjaaGreatDoorLCa
import Derived.Test.YtbemgcjckchdjaaGreatDoorLGf
import Derived.Test.YtbemgcjckchdjaaGreatDoorLGg
import Derived.Test.YtbemgcjckchdjaaGreatDoorLGd
/- Checked programs: how high the stack stands at every place (plain Lean). -/
namespace Go.Proofs.YtbemgcjckchdjaaGreatDoor
open Go.RowKit
set_option linter.unusedSimpArgs false
set_option linter.unusedVariables false
def Ext (h h' : HT) : Prop := ∀ a v, h a = some v → h' a = some v
theorem Ext.refl (h : HT) : Ext h h := fun _ _ e => e
theorem Ext.trans {a b c : HT} (h : Ext a b) (k : Ext b c) : Ext a c := fun x v e => k x v (h x v e)
theorem DD {h : HT} {a v : Int} (hc : (AN h a v).2 = true) : Ext h (AN h a v).1 ∧ (AN h a v).1 a = some v := by
 unfold AN at hc ⊢
 refine ⟨fun x u e => ?_, by show BR h a v a = _; unfold BR; rw [if_pos rfl]⟩
 show BR h a v x = some u
 unfold BR
 by_cases hx : x = a
 · subst hx
   rw [if_pos rfl]
   rw [e] at hc
   have : u = v := by simpa using hc
   rw [this]
 · rw [if_neg hx]; exact e
def StepOK (n : Nat) (x : IT) (i : Nat) (h : HT) : Prop := ∃ ht, h i = some ht ∧
 ((x.op = 1 ∧ x.s.ok = true ∧ x.s.k < 21 ∧ x.s.takes ≤ ht ∧ h ((i : Int) + 1) = some (ht - x.s.takes + 1)) ∨
  ((x.op = 2 ∨ x.op = 4) ∧ (i : Int) < x.tgt ∧ x.tgt ≤ (n : Int) ∧ h x.tgt = some ht ∧ 1 ≤ ht ∧ h ((i : Int) + 1) = some (if x.op = 2 then ht - 1 else ht)) ∨
  (x.op = 3 ∧ 1 ≤ ht ∧ h ((i : Int) + 1) = some ht) ∨
  (x.op = 5 ∧ 2 ≤ ht ∧ h ((i : Int) + 1) = some (ht - 1)))
theorem StepOK.ext {n : Nat} {x : IT} {i : Nat} {h h' : HT} (k : StepOK n x i h) (e : Ext h h') : StepOK n x i h' := by
 obtain ⟨ht, h1, h2⟩ := k
 refine ⟨ht, e _ _ h1, ?_⟩
 rcases h2 with ⟨a, b, c, d, f⟩ | ⟨a, b, c, d, f, g⟩ | ⟨a, b, c⟩ | ⟨a, b, c⟩
 · exact Or.inl ⟨a, b, c, d, e _ _ f⟩
 · exact Or.inr (Or.inl ⟨a, b, c, e _ _ d, f, e _ _ g⟩)
 · exact Or.inr (Or.inr (Or.inl ⟨a, b, e _ _ c⟩))
 · exact Or.inr (Or.inr (Or.inr ⟨a, b, e _ _ c⟩))
theorem GT {c : Bool} {a b : HT} (h : (if c = true then some a else none) = some b) : c = true ∧ a = b := by
 cases c with
 | true => exact ⟨rfl, Option.some.inj h⟩
 | false => cases h
theorem R1 {n : Nat} {x : IT} {i : Nat} {h0 h1 : HT} (h : AE n x i h0 = some h1) : Ext h0 h1 ∧ StepOK n x i h1 := by
 unfold AE at h
 cases hi : h0 (i : Int) with
 | none => rw [hi] at h; cases h
 | some ht =>
   rw [hi] at h
   dsimp only at h
   by_cases c1 : x.op = 1
   · rw [if_pos c1] at h
     split at h
     · rename_i hb
       cases h
       simp only [Bool.and_eq_true, decide_eq_true_eq] at hb
       obtain ⟨⟨⟨⟨b1, b2⟩, b3⟩, b4⟩, b5⟩ := hb
       obtain ⟨e1, e2⟩ := DD b5
       exact ⟨e1, ht, e1 _ _ hi, Or.inl ⟨c1, b1, b2, b4, e2⟩⟩
     · cases h
   rw [if_neg c1] at h
   by_cases c2 : x.op = 2 ∨ x.op = 4
   · rw [if_pos c2] at h
     obtain ⟨hb, rfl⟩ := GT h
     simp only [Bool.and_eq_true, decide_eq_true_eq] at hb
     obtain ⟨⟨⟨⟨⟨b1, b2⟩, b3⟩, b4⟩, b5⟩, b6⟩ := hb
     obtain ⟨e1, e2⟩ := DD b3
     obtain ⟨e3, e4⟩ := DD b6
     exact ⟨e1.trans e3, ht, e3 _ _ (e1 _ _ hi), Or.inr (Or.inl ⟨c2, b1, b2, e3 _ _ e2, b5, e4⟩)⟩
   rw [if_neg c2] at h
   by_cases c3 : x.op = 3
   · rw [if_pos c3] at h
     split at h
     · rename_i hb
       cases h
       simp only [Bool.and_eq_true, decide_eq_true_eq] at hb
       obtain ⟨⟨⟨b1, b2⟩, b3⟩, b4⟩ := hb
       obtain ⟨e1, e2⟩ := DD b4
       exact ⟨e1, ht, e1 _ _ hi, Or.inr (Or.inr (Or.inl ⟨c3, b3, e2⟩))⟩
     · cases h
   rw [if_neg c3] at h
   by_cases c5 : x.op = 5
   · rw [if_pos c5] at h
     split at h
     · rename_i hb
       cases h
       simp only [Bool.and_eq_true, decide_eq_true_eq] at hb
       obtain ⟨⟨⟨b1, b2⟩, b3⟩, b4⟩ := hb
       obtain ⟨e1, e2⟩ := DD b4
       exact ⟨e1, ht, e1 _ _ hi, Or.inr (Or.inr (Or.inr ⟨c5, b3, e2⟩))⟩
     · cases h
   rw [if_neg c5] at h
   cases h
theorem Gk {n : Nat} : ∀ (p : List IT) (i : Nat) (h0 hF : HT), goK n p i h0 = some hF → Ext h0 hF ∧ ∀ j (hj : j < p.length), StepOK n p[j] (i + j) hF
 | [], i, h0, hF, h => by
   unfold goK at h
   cases h
   exact ⟨Ext.refl _, fun j hj => absurd hj (Nat.not_lt_zero _)⟩
 | x :: r, i, h0, hF, h => by
   unfold goK at h
   cases hs : AE n x i h0 with
   | none => rw [hs] at h; cases h
   | some h1 =>
     rw [hs] at h
     dsimp only at h
     obtain ⟨a1, a2⟩ := R1 hs
     obtain ⟨b1, b2⟩ := Gk r (i + 1) h1 hF h
     refine ⟨a1.trans b1, fun j hj => ?_⟩
     cases j with
     | zero => exact a2.ext b1
     | succ j =>
       have := b2 j (by simpa using hj)
       rwa [show i + 1 + j = i + (j + 1) by omega] at this
def AP (p : List IT) (h : HT) : Prop := h 0 = some 0 ∧ h p.length = some 1 ∧ ∀ j (hj : j < p.length), StepOK p.length p[j] j h
theorem Gy {p : List IT} (h : AL p = 0) : 1 ≤ p.length ∧ p.length ≤ 256 ∧ ∃ hF, AP p hF := by
 unfold AL at h
 by_cases hl : 1 ≤ p.length ∧ p.length ≤ 256
 · rw [if_pos hl] at h
   refine ⟨hl.1, hl.2, ?_⟩
   cases hg : goK p.length p 0 H0 with
   | none => rw [hg] at h; cases h
   | some hF =>
     rw [hg] at h
     dsimp only at h
     obtain ⟨a, b⟩ := Gk p 0 H0 hF hg
     by_cases hn : hF p.length = some 1
     · refine ⟨hF, a 0 0 (by unfold H0 BR; rw [if_pos rfl]), hn, fun j hj => ?_⟩
       have := b j hj
       rwa [Nat.zero_add] at this
     · rw [if_neg hn] at h; cases h
 · rw [if_neg hl] at h; cases h
def At (p : List IT) (h : HT) (i : Nat) (vs : List VT) : Prop := h i = some (vs.length : Int) ∧ i ≤ p.length ∧ vs.length ≤ i
theorem Dx {p : List IT} {h : HT} (hH : AP p h) : At p h 0 [] := ⟨hH.1, Nat.zero_le _, Nat.le_refl _⟩
theorem Dw {p : List IT} {h : HT} (hH : AP p h) {i : Nat} {vs : List VT} (ha : At p h i vs) (hi : i < p.length) :
   (p[i].op = 1 ∧ p[i].s.ok = true ∧ p[i].s.k < 21 ∧ p[i].s.takes ≤ (vs.length : Int)) ∨ ((p[i].op = 2 ∨ p[i].op = 4) ∧ (i : Int) < p[i].tgt ∧ p[i].tgt ≤ (p.length : Int) ∧ 1 ≤ vs.length) ∨ (p[i].op = 3 ∧ 1 ≤ vs.length) ∨ (p[i].op = 5 ∧ 2 ≤ vs.length) := by
 obtain ⟨ht, h1, h2⟩ := hH.2.2 i hi
 obtain ⟨a1, a2, a3⟩ := ha
 rw [a1] at h1
 cases h1
 rcases h2 with ⟨a, b, c, d, f⟩ | ⟨a, b, c, d, f, g⟩ | ⟨a, b, c⟩ | ⟨a, b, c⟩
 · exact Or.inl ⟨a, b, c, d⟩
 · exact Or.inr (Or.inl ⟨a, b, c, by omega⟩)
 · exact Or.inr (Or.inr (Or.inl ⟨a, by omega⟩))
 · exact Or.inr (Or.inr (Or.inr ⟨a, by omega⟩))
theorem CY {p : List IT} {h : HT} (hH : AP p h) {i : Nat} {vs : List VT} (ha : At p h i vs) (hi : i < p.length) (row : VT) (htk : ∀ s : ST, s.ok = true → 0 ≤ s.takes) :
   ∃ j : Nat, (opR row p[i] vs ((i : Int) + 1)).2.2 = (j : Int) ∧ i < j ∧ At p h j (opR row p[i] vs ((i : Int) + 1)).2.1 := by
 obtain ⟨ht, h1, h2⟩ := hH.2.2 i hi
 obtain ⟨a1, a2, a3⟩ := ha
 rw [a1] at h1
 cases h1
 have e1 : ((i : Int) + 1) = ((i + 1 : Nat) : Int) := by omega
 rcases h2 with ⟨a, b, c, d, f⟩ | ⟨a, b, c, d, f, g⟩ | ⟨a, b, c⟩ | ⟨a, b, c⟩
 · have h0 := htk _ b
   refine ⟨i + 1, ?_, by omega, ?_⟩
   · unfold opR; rw [if_pos a]; exact e1
   · unfold opR; rw [if_pos a]
     rw [e1] at f
     refine ⟨f.trans ?_, by omega, ?_⟩
     · dsimp only; rw [List.length_append, List.length_take]; simp only [List.length_cons, List.length_nil]; congr 1; omega
     · dsimp only; rw [List.length_append, List.length_take]; simp only [List.length_cons, List.length_nil]; omega
 · rcases a with a | a
   · have n1 : ¬ p[i].op = 1 := by omega
     rw [if_pos a, e1] at g
     obtain ⟨j, hj⟩ : ∃ j : Nat, p[i].tgt = (j : Int) := ⟨p[i].tgt.toNat, by omega⟩
     unfold opR
     rw [if_neg n1, if_pos a]
     dsimp only
     cases (Bz vs).bool with
     | true =>
       refine ⟨i + 1, e1, by omega, ?_⟩
       refine ⟨g.trans ?_, by omega, ?_⟩
       · rw [if_pos rfl, List.length_take]; congr 1; omega
       · rw [if_pos rfl, List.length_take]; omega
     | false =>
       rw [hj] at b c d
       refine ⟨j, hj, by omega, ?_⟩
       exact ⟨d, by omega, by simp only [Bool.false_eq_true, if_false]; omega⟩
   · have n1 : ¬ p[i].op = 1 := by omega
     have n2 : ¬ p[i].op = 2 := by omega
     rw [if_neg n2, e1] at g
     obtain ⟨j, hj⟩ : ∃ j : Nat, p[i].tgt = (j : Int) := ⟨p[i].tgt.toNat, by omega⟩
     unfold opR
     rw [if_neg n1, if_neg n2, if_pos a]
     dsimp only
     cases (Bz vs).bool with
     | true =>
       rw [hj] at b c d
       exact ⟨j, hj, by omega, d, by omega, by omega⟩
     | false => exact ⟨i + 1, e1, by omega, g, by omega, by omega⟩
 · have n1 : ¬ p[i].op = 1 := by omega
   have n2 : ¬ p[i].op = 2 := by omega
   have n4 : ¬ p[i].op = 4 := by omega
   unfold opR
   rw [if_neg n1, if_neg n2, if_neg n4, if_pos a]
   rw [e1] at c
   exact ⟨i + 1, e1, by omega, c, by omega, by dsimp only; omega⟩
 · have n1 : ¬ p[i].op = 1 := by omega
   have n2 : ¬ p[i].op = 2 := by omega
   have n4 : ¬ p[i].op = 4 := by omega
   have n3 : ¬ p[i].op = 3 := by omega
   unfold opR
   rw [if_neg n1, if_neg n2, if_neg n4, if_neg n3]
   rw [e1] at c
   refine ⟨i + 1, e1, by omega, c.trans ?_, by omega, ?_⟩
   · dsimp only; rw [List.length_append, List.length_take]; simp only [List.length_cons, List.length_nil]; congr 1; omega
   · dsimp only; rw [List.length_append, List.length_take]; simp only [List.length_cons, List.length_nil]; omega
/- Runs and their fuel (plain). -/
def All2 {α β : Type} (R : α → β → Prop) : List α → List β → Prop
 | [], [] => True
 | a :: l, b :: m => R a b ∧ All2 R l m
 | _, _ => False
theorem All2.len {α β : Type} {R : α → β → Prop} : ∀ {l : List α} {m : List β}, All2 R l m → l.length = m.length
 | [], [], _ => rfl
 | _ :: _, _ :: _, h => by rw [List.length_cons, List.length_cons, All2.len h.2]
 | [], _ :: _, h => h.elim
 | _ :: _, [], h => h.elim
theorem All2.take {α β : Type} {R : α → β → Prop} : ∀ (n : Nat) {l : List α} {m : List β}, All2 R l m → All2 R (l.take n) (m.take n)
 | 0, _, _, _ => trivial
 | n + 1, [], [], _ => trivial
 | n + 1, _ :: _, _ :: _, h => ⟨h.1, All2.take n h.2⟩
 | _ + 1, [], _ :: _, h => h.elim
 | _ + 1, _ :: _, [], h => h.elim
theorem All2.drop {α β : Type} {R : α → β → Prop} : ∀ (n : Nat) {l : List α} {m : List β}, All2 R l m → All2 R (l.drop n) (m.drop n)
 | 0, _, _, h => h
 | n + 1, [], [], _ => trivial
 | n + 1, _ :: _, _ :: _, h => All2.drop n h.2
 | _ + 1, [], _ :: _, h => h.elim
 | _ + 1, _ :: _, [], h => h.elim
def Code (Q : List IT) (b : Nat) (L : List IT) : Prop := ∃ pre post, Q = pre ++ L ++ post ∧ pre.length = b
theorem Code.cons {Q : List IT} {b : Nat} {x : IT} {M : List IT} (h : Code Q b (x :: M)) : Q[b]? = some x ∧ Code Q (b + 1) M := by
 obtain ⟨pre, post, e, hb⟩ := h
 refine ⟨?_, ⟨pre ++ [x], post, by rw [e]; simp, by rw [List.length_append, hb]; rfl⟩⟩
 rw [e, ← hb]
 simp
theorem Ob {Q : List IT} {row : VT} {b : Nat} {x : IT} (h : Q[b]? = some x) (f : Nat) (vs : List VT) :
  AD Q row (f + 1) b vs = if (opR row x vs ((b : Int) + 1)).1 ≠ 0 then ((Am, (opR row x vs ((b : Int) + 1)).1), f) else AD Q row f (opR row x vs ((b : Int) + 1)).2.2.toNat (opR row x vs ((b : Int) + 1)).2.1 := by
 obtain ⟨hb, e⟩ := List.getElem?_eq_some_iff.mp h
 rw [AD, dif_pos hb, e]
theorem Ek (v : VT) : Bf v = 0 ∨ Bf v = 5 := by unfold Bf; split; exact Or.inr rfl; exact Or.inl rfl
theorem Ej : ∀ (l : List Int), (∀ z ∈ l, z ≠ 16) → AR l ≠ 16
 | [], _ => by decide
 | z :: r, h => by
   unfold AR
   split
   · exact Ej r (fun y hy => h y (List.mem_cons_of_mem _ hy))
   · exact h z List.mem_cons_self
theorem RG (b : Bool) {e : Int} (h : e ≠ 16) : Br b e ≠ 16 := by unfold Br; split; decide; exact h
theorem Jy (s : ByteArray) : CL s ≠ 16 := by unfold CL; (repeat' split) <;> (decide)
theorem Gt (k : Int) (b : Bool) (n : Int) (s : ByteArray) (ll fl : Nat) (d : Int) : CW k b n s ll fl d ≠ 16 := by
 unfold CW
 apply Ej
 intro z hz
 simp only [List.mem_cons, List.not_mem_nil, or_false] at hz
 rcases hz with rfl | rfl | rfl | rfl | rfl <;> exact RG _ (by decide)
mutual
theorem D9 : ∀ (t : VT) (d : Int), Ao t d ≠ 16
 | .mk k b n s l f, d => by
   unfold Ao
   split
   · exact Gt _ _ _ _ _ _ _
   · split
     · exact D1 l _
     · exact D0 _ f _
theorem D1 : ∀ (l : VL) (d : Int), BH l d ≠ 16
 | .nil, d => by unfold BH; decide
 | .cons t r, d => by
   unfold BH
   split
   · exact D9 t d
   · exact D1 r d
theorem D0 : ∀ (last : ByteArray) (f : FL) (d : Int), Cu last f d ≠ 16
 | _, .nil, d => by unfold Cu; decide
 | last, .cons s t r, d => by
   unfold Cu
   split
   · apply Ej
     intro z hz
     simp only [List.mem_cons, List.not_mem_nil, or_false] at hz
     rcases hz with rfl | rfl
     · exact Jy _
     · exact RG _ (by decide)
   · split
     · exact D9 t d
     · exact D0 s r d
end
theorem Cc (us : List VT) : AV (us.map fun v => ((v, 0) : Rz)) = .ok us := by
 induction us with
 | nil => rfl
 | cons v r ih =>
   rw [List.map_cons]
   unfold AV
   rw [if_neg (by simp), ih]
theorem Ex {r : Rz} (h : r.2 ≠ 16) : (A4 r).2 ≠ 16 := by unfold A4; (repeat' split) <;> (first | exact h | (dsimp only; decide))
theorem CK (s : ST) (row : VT) (us : List VT) : (BZ s row us).2 ≠ 16 := by
 have hc : ∀ v : VT, (C3 v).2 ≠ 16 := fun v => by
   unfold C3
   split
   · dsimp only; decide
   · exact D9 v 0
 have hm : ∀ nm, (Cb nm (us.map fun v => ((v, 0) : Rz))).2 ≠ 16 := fun nm => by
   unfold Cb
   rw [Cc]
   exact hc _
 have hg : ∀ i, ((us.map fun v => ((v, 0) : Rz)).getD i (Am, 0)).2 ≠ 16 := fun i => by
   rw [List.getD_eq_getElem?_getD, List.getElem?_map]
   cases us[i]? with
   | none => show (0 : Int) ≠ 16; decide
   | some v => show (0 : Int) ≠ 16; decide
 have hk : ∀ k a b, (BF k a b).2 ≠ 16 := fun k a b => by
   unfold BF
   split
   · split
     · dsimp only; decide
     · dsimp only; decide
   · dsimp only; decide
 have hh : ∀ k a b, (DT k a b).2 ≠ 16 := fun k a b => by unfold DT; (repeat' split) <;> ((dsimp only; decide))
 unfold BZ AX
 split
 · exact hm _
 split
 · exact hm _
 split
 · unfold B3
   repeat' split
   all_goals first | exact Ex (hg 0) | exact Ex (hg 1) | (dsimp only; decide)
 split
 · unfold F0; repeat' split
   all_goals (dsimp only; decide)
 · unfold Dm
   rw [Cc]
   dsimp only
   repeat' split
   all_goals first | exact hk _ _ _ | exact hh _ _ _ | (dsimp only; decide)
theorem KQ (row : VT) (x : IT) (vs : List VT) (next : Int) : (opR row x vs next).1 ≠ 16 := by
 have hf : ∀ v, Bf v ≠ 16 := fun v => by rcases Ek v with h | h <;> rw [h] <;> decide
 unfold opR
 split
 · exact CK _ _ _
 split
 · exact hf _
 split
 · exact hf _
 split
 · exact hf _
 · dsimp only
   rcases Ek (vs.getD (vs.length - 2) Am) with h | h <;> rcases Ek (Bz vs) with h' | h' <;> rw [h, h'] <;> decide
theorem Oa {p : List IT} {row : VT} {i : Nat} (hi : ¬ i < p.length) (vs : List VT) : ∀ f : Nat, AD p row f i vs = ((Bz vs, 0), f)
 | 0 => by rw [AD, if_neg hi]
 | f + 1 => by rw [AD, dif_neg hi]
theorem Oc {p : List IT} {row : VT} {i : Nat} (hi : i < p.length) (f : Nat) (vs : List VT) : AD p row (f + 1) i vs = if (opR row p[i] vs ((i : Int) + 1)).1 ≠ 0 then ((Am, (opR row p[i] vs ((i : Int) + 1)).1), f) else AD p row f (opR row p[i] vs ((i : Int) + 1)).2.2.toNat (opR row p[i] vs ((i : Int) + 1)).2.1 :=
 Ob (List.getElem?_eq_getElem hi) f vs
theorem EU {p : List IT} {row : VT} {hF : HT} (hH : AP p hF) : ∀ (f i : Nat) (vs : List VT), At p hF i vs → p.length - i ≤ f → (AD p row f i vs).1.2 ≠ 16
 | 0, i, vs, ha, hf => by rw [Oa (by omega)]; show (0 : Int) ≠ 16; decide
 | f + 1, i, vs, ha, hf => by
   by_cases hi : i < p.length
   · rw [Oc hi]
     obtain ⟨j, ej, lj, hj⟩ := CY hH ha hi row (fun s hs => (Bn s hs).1)
     split
     · exact KQ _ _ _ _
     · rw [ej]
       exact EU hH f j _ hj (by omega)
   · rw [Oa hi]; show (0 : Int) ≠ 16; decide
theorem Fj {p : List IT} {row : VT} : ∀ (f i : Nat) (vs : List VT), (AD p row f i vs).2 ≤ f
 | 0, i, vs => by rw [AD]; split <;> exact Nat.le_refl _
 | f + 1, i, vs => by
   by_cases hi : i < p.length
   · rw [Oc hi]
     split
     · exact Nat.le_succ _
     · exact Nat.le_succ_of_le (Fj f _ _)
   · rw [Oa hi]; exact Nat.le_refl _
theorem Fq {p : List IT} {row : VT} (h : 1 ≤ p.length) (f : Nat) : (AD p row (f + 1) 0 []).2 ≤ f := by
 rw [Oc h]
 split
 · exact Nat.le_refl _
 · exact Fj f _ _
theorem F2 {p : List IT} {row : VT} (m : Nat) : ∀ (f i : Nat) (vs : List VT), (AD p row f i vs).1.2 ≠ 16 → AD p row (f + m) i vs = ((AD p row f i vs).1, (AD p row f i vs).2 + m)
 | 0, i, vs, h => by
   by_cases hi : i < p.length
   · rw [AD, if_pos hi] at h; exact absurd rfl h
   · rw [Oa hi, Oa hi]
 | f + 1, i, vs, h => by
   by_cases hi : i < p.length
   · rw [Oc hi] at h ⊢
     rw [show f + 1 + m = f + m + 1 by omega, Oc hi]
     by_cases he : (opR row p[i] vs ((i : Int) + 1)).1 ≠ 0
     · rw [if_pos he, if_pos he]
     · rw [if_neg he] at h
       rw [if_neg he, if_neg he]
       exact F2 m f _ _ h
   · rw [Oa hi, Oa hi]
theorem FD {p : List IT} {row : VT} : ∀ (f i : Nat) (vs : List VT), (AD p row f i vs).1.2 ≠ 16 → AD p row (f - (AD p row f i vs).2) i vs = ((AD p row f i vs).1, 0) ∧ ∀ g, g < f - (AD p row f i vs).2 → AD p row g i vs = ((Am, 16), 0)
 | 0, i, vs, h => by
   by_cases hi : i < p.length
   · rw [AD, if_pos hi] at h; exact absurd rfl h
   · rw [Oa hi, Oa hi]; exact ⟨rfl, fun g hg => absurd hg (Nat.not_lt_zero _)⟩
 | f + 1, i, vs, h => by
   by_cases hi : i < p.length
   · rw [Oc hi] at h ⊢
     by_cases he : (opR row p[i] vs ((i : Int) + 1)).1 ≠ 0
     · rw [if_pos he]
       dsimp only
       rw [show f + 1 - f = 0 + 1 by omega, Oc hi, if_pos he]
       refine ⟨rfl, fun g hg => ?_⟩
       rw [show g = 0 by omega, AD, if_pos hi]
     · rw [if_neg he] at h ⊢
       obtain ⟨a, b⟩ := FD f _ _ h
       have hl := Fj (p := p) (row := row) f (opR row p[i] vs ((i : Int) + 1)).2.2.toNat (opR row p[i] vs ((i : Int) + 1)).2.1
       generalize hr : AD p row f (opR row p[i] vs ((i : Int) + 1)).2.2.toNat (opR row p[i] vs ((i : Int) + 1)).2.1 = R at *
       refine ⟨?_, fun g hg => ?_⟩
       · rw [show f + 1 - R.2 = f - R.2 + 1 by omega, Oc hi, if_neg he, a]
       · match g, hg with
         | 0, _ => rw [AD, if_pos hi]
         | g + 1, hg => rw [Oc hi, if_neg he]; exact b g (by omega)
   · have e := Oa (row := row) hi vs (f + 1)
     rw [e]
     dsimp only
     rw [Nat.sub_self]
     exact ⟨Oa hi vs 0, fun g hg => absurd hg (Nat.not_lt_zero _)⟩
theorem Ok {p : List IT} {row : VT} {fuel : Int} (hp : AL p = 0) (hc : Ao row 0 = 0) (h0 : 0 ≤ fuel) (h1 : fuel ≤ 65536) : BC p row fuel = AD p row fuel.toNat 0 [] := by
 unfold BC
 rw [if_neg (fun h => h hp), if_neg (fun h => h hc), if_neg (by omega)]
theorem Oo {p : List IT} {row : VT} {fuel : Int} (hp : AL p ≠ 0) : BC p row fuel = ((Am, AL p), 0) := by unfold BC; rw [if_pos hp]
theorem Oq {p : List IT} {row : VT} {fuel : Int} (hp : AL p = 0) (hc : Ao row 0 ≠ 0) : BC p row fuel = ((Am, Ao row 0), 0) := by unfold BC; rw [if_neg (fun h => h hp), if_pos hc]
theorem Ff {p : List IT} {row : VT} (hp : AL p = 0) (hc : Ao row 0 = 0) : ∃ (r : Rz) (left : Nat), r.2 ≠ 16 ∧ left < p.length ∧ p.length ≤ 256 ∧ BC p row p.length = (r, left) ∧
   (∀ more : Int, 1 ≤ more → more ≤ 1000 → BC p row (p.length + more) = (r, left + more.toNat)) ∧ BC p row ((p.length : Int) - left) = (r, 0) ∧ BC p row ((p.length : Int) - left - 1) = ((Am, 16), 0) := by
 obtain ⟨h1, h2, hF, hH⟩ := Gy hp
 have e0 := EU (row := row) hH p.length 0 [] (Dx hH) (by omega)
 have el : (AD p row p.length 0 []).2 < p.length := by
   have := Fq (row := row) h1 (p.length - 1)
   rw [show p.length - 1 + 1 = p.length by omega] at this
   omega
 obtain ⟨t1, t2⟩ := FD (p := p) (row := row) p.length 0 [] e0
 have tm := fun m => F2 (p := p) (row := row) m p.length 0 [] e0
 generalize hr : AD p row p.length 0 [] = R at *
 refine ⟨R.1, R.2, e0, el, h2, ?_, fun more m1 m2 => ?_, ?_, ?_⟩
 · rw [Ok hp hc (by omega) (by omega), Int.toNat_natCast, hr]
 · rw [Ok hp hc (by omega) (by omega), show ((p.length : Int) + more).toNat = p.length + more.toNat by omega, tm]
 · rw [Ok hp hc (by omega) (by omega), show ((p.length : Int) - R.2).toNat = p.length - R.2 by omega, t1]
 · rw [Ok hp hc (by omega) (by omega)]
   exact t2 _ (by omega)
/- An instruction of a checked program, by the map of function values. -/
theorem GO (p : List IT) (hF : HT) (i : Nat) (vs : List VT) (hH : AP p hF) (hlen : p.length ≤ 256) (ha : At p hF i vs) (hi : i < p.length) (hst : ∀ x ∈ p, Be x.s) (M hi' : Nat) (row : VT) (c : Nat) (f : Int) (w w0 : World) (hM : Mach M hi' w row vs c f ((i : Int) + 1)) (hc : c ≤ maxLen) (hL : Laid w0) (hbw : Below w0.heap.size w0 w) (hM0 : w0.heap.size ≤ M) :
   ∃ n, opF p[i].op = some n ∧ (∀ (args : Array Value) (w : World), (callFunc n args).run Tryz.prog w = .ok (.enter n args) w) ∧ Calls Tryz.prog n #[.pointer (some ⟨M, 0, none⟩), IW p[i]] w (MOp M row (opR row p[i] vs ((i : Int) + 1)).2.1 f (opR row p[i] vs ((i : Int) + 1)).2.2 (opR row p[i] vs ((i : Int) + 1)).1 w) := by
 have hvl : vs.length ≤ 1000 := by have := ha.2.2; omega
 rcases Dw hH ha hi with ⟨a, b, c', d⟩ | ⟨a, b, c', d⟩ | ⟨a, b⟩ | ⟨a, b⟩
 · refine ⟨45, by rw [a]; rfl, fun args w => Tryz.call45 args w, ?_⟩
   have := LG M hi' row vs c f ((i : Int) + 1) p[i] w w0 hM d hvl hc (hst _ (List.getElem_mem hi)) b c' hL hbw hM0
   unfold opR
   rw [if_pos a]
   exact this
 · rcases a with a | a
   · refine ⟨46, by rw [a]; rfl, fun args w => Tryz.call46 args w, ?_⟩
     have := MO M hi' row vs c f ((i : Int) + 1) p[i] w hM d hvl hc _ _ (Lib.hid rfl) (Lib.hid rfl)
     unfold opR
     rw [if_neg (by omega), if_pos a]
     exact this
   · refine ⟨47, by rw [a]; rfl, fun args w => Tryz.call47 args w, ?_⟩
     have := NU M hi' row vs c f ((i : Int) + 1) p[i] w hM d hvl hc vs _ (Lib.hid rfl) (Lib.hid rfl)
     unfold opR
     rw [if_neg (by omega), if_neg (by omega), if_pos a]
     exact this
 · refine ⟨48, by rw [a]; rfl, fun args w => Tryz.call48 args w, ?_⟩
   have := LE M hi' row vs c f ((i : Int) + 1) p[i] w hM b hvl hc
   unfold opR
   rw [if_neg (by omega), if_neg (by omega), if_neg (by omega), if_pos a]
   exact this
 · refine ⟨49, by rw [a]; rfl, fun args w => Tryz.call49 args w, ?_⟩
   obtain ⟨x, y, h1, h2, h3⟩ := Pt vs b
   have := LF M hi' row vs c f ((i : Int) + 1) p[i] w x y hM b hvl hc h1
   unfold opR
   rw [if_neg (by omega), if_neg (by omega), if_neg (by omega), if_neg (by omega), h2, h3]
   exact this
end Go.Proofs.YtbemgcjckchdjaaGreatDoor
