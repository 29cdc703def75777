import Derived.Test.YtbemgcjckchdjaaGreatDoorLCl
import Derived.Test.YtbemgcjckchdjaaGreatDoorLUa
/- What code.Compile makes is a program that code.Check lets through (plain). -/
namespace Go.Proofs.YtbemgcjckchdjaaGreatDoor
open Go.RowKit
set_option linter.unusedSimpArgs false
set_option linter.unusedVariables false
theorem Rv {s : ST} (h : s.ok = true) (h1 : s.k ≠ 21) (h2 : s.k ≠ 22) : s.k < 21 := by
 unfold ST.ok AC at h
 simp only [Bool.and_eq_true] at h
 by_cases h21 : s.k < 21
 · exact h21
 have hk := h.1
 rw [if_neg (by omega), if_neg (by omega), if_neg (by omega), if_neg (by omega), if_neg (by omega), if_neg (by omega)] at hk
 have := of_decide_eq_true hk
 omega
theorem DB {s : ST} (h : s.k = 21 ∨ s.k = 22) : s.takes = 2 := by
 unfold ST.takes AJ
 rw [if_neg (by omega), if_neg (by omega), if_neg (by omega)]
theorem LO (a b : Nat) (x : IT) : Az a (Az b x) = Az (b + a) x := by
 unfold Az
 by_cases h : 0 < x.tgt
 · rw [if_pos h, if_pos h]
   dsimp only
   rw [if_pos (by omega)]
   congr 1
   omega
 · rw [if_neg h, if_neg h, if_neg h]
theorem O5 (a b : Nat) (P : List IT) : (P.map (Az b)).map (Az a) = P.map (Az (b + a)) := by
 rw [List.map_map]
 apply List.map_congr_left
 intro x _
 exact LO a b x
def Cw : List (List IT) → Nat → List IT
 | [], _ => []
 | p :: r, b => p.map (Az b) ++ Cw r (b + p.length)
def AP : List (List IT) → Nat
 | [] => 0
 | p :: r => p.length + AP r
theorem Ef : ∀ (parts : List (List IT)) (b : Nat), (Cw parts b).length = AP parts
 | [], _ => rfl
 | p :: r, b => by
   unfold Cw AP
   rw [List.length_append, List.length_map, Ef r]
theorem Gk (c : Nat) : ∀ (parts : List (List IT)) (b : Nat), (Cw parts b).map (Az c) = Cw parts (b + c)
 | [], _ => rfl
 | p :: r, b => by
   unfold Cw
   rw [List.map_append, O5, Gk c r, show b + p.length + c = b + c + p.length by omega]
theorem KL : ∀ (parts : List (List IT)) (out : List IT), Bk parts out = out ++ Cw parts out.length
 | [], out => by unfold Bk Cw; simp
 | p :: r, out => by
   unfold Bk Cw
   rw [KL r, List.length_append, List.length_map, List.append_assoc]
theorem KM (parts : List (List IT)) : Bk parts [] = Cw parts 0 := by rw [KL]; rfl
theorem DH {s : ST} (h1 : s.k ≠ 21) (h2 : s.k ≠ 22) (parts : List (List IT)) (b : Nat) : (AQ s parts).map (Az b) = Cw parts b ++ [⟨1, s, 0⟩] := by
 unfold AQ
 rw [if_neg h1, if_neg h2, KM, List.map_append, Gk, Nat.zero_add]
 rfl
def Gn (j k : Int) (A B : List IT) (b : Nat) : List IT := A.map (Az b) ++ (⟨j, zS, (b : Int) + A.length + B.length + 2⟩ :: (B.map (Az (b + A.length + 1)) ++ [⟨k, zS, 0⟩]))
theorem DD (j k : Int) (A B : List IT) (b : Nat) : (AU j k A B).map (Az b) = Gn j k A B b := by
 unfold AU Gn
 rw [KM, Gk, Nat.zero_add]
 unfold Cw Cw Cw Cw Cw
 simp only [List.map_cons, List.map_nil, List.length_cons, List.length_nil, List.append_nil, List.cons_append, List.nil_append]
 congr 2
 · unfold Az
   dsimp only
   rw [if_pos (by omega)]
   congr 1
   omega
theorem Dw (j k : Int) (A B : List IT) : (AU j k A B).length = A.length + B.length + 2 := by
 have := congrArg List.length (DD j k A B 0)
 rw [List.length_map] at this
 rw [this]
 unfold Gn
 simp only [List.length_append, List.length_cons, List.length_map, List.length_nil]
 omega
theorem PU (s : ST) {parts : List (List IT)} (h : s.takes = (parts.length : Int)) : 1 ≤ (AQ s parts).length ∧ (AQ s parts).length ≤ AP parts + 2 := by
 by_cases h1 : s.k = 21 ∨ s.k = 22
 · rw [DB h1] at h
   match parts, h with
   | [A, B], _ =>
     have e : ∃ j k, AQ s [A, B] = AU j k A B := by
      rcases h1 with h1 | h1
      · exact ⟨2, 3, by unfold AQ; rw [if_pos h1]; rfl⟩
      · exact ⟨4, 5, by unfold AQ; rw [if_neg (by omega), if_pos h1]; rfl⟩
     obtain ⟨j, k, e⟩ := e
     rw [e, Dw]
     unfold AP AP AP
     omega
 · have e := congrArg List.length (DH (b := 0) (fun e => h1 (Or.inl e)) (fun e => h1 (Or.inr e)) parts)
   rw [List.length_map, List.length_append, Ef] at e
   rw [e]
   simp
theorem Ff {n : Nat} {B : List IT} : ∀ (A : List IT) (i : Nat) (h h1 : HT), goK n A i h = some h1 → goK n (A ++ B) i h = goK n B (i + A.length) h1
 | [], i, h, h1, e => by
   unfold goK at e
   cases e
   rfl
 | x :: r, i, h, h1, e => by
   unfold goK at e
   rw [List.cons_append]
   conv => lhs; unfold goK
   cases hs : AE n x i h with
   | none => rw [hs] at e; cases e
   | some h2 =>
     rw [hs] at e
     dsimp only at e ⊢
     rw [Ff r (i + 1) h2 h1 e, List.length_cons, show i + (r.length + 1) = i + 1 + r.length by omega]
theorem Hq {n : Nat} {x : IT} {B : List IT} {i : Nat} {h h1 : HT} (e : AE n x i h = some h1) : goK n (x :: B) i h = goK n B (i + 1) h1 := by
 conv => lhs; unfold goK
 rw [e]
theorem Ex (h : HT) (a v : Int) : BR h a v a = some v := by unfold BR; rw [if_pos rfl]
theorem CK (h : HT) {a v x : Int} (hx : x ≠ a) : BR h a v x = h x := by unfold BR; rw [if_neg hx]
theorem Gc {h : HT} {a v : Int} (e : h a = none) : (AN h a v).2 = true := by unfold AN; rw [e]
theorem Jy {h : HT} {a v : Int} (e : h a = some v) : (AN h a v).2 = true := by unfold AN; rw [e]; exact decide_eq_true rfl
theorem Jh : ER zS = true := by
 have e : (⟨#[]⟩ : ByteArray).toList = [] := by rw [ByteArray.toList_eq]
 unfold ER zS
 simp [e]
def BI (P : List IT) : Prop := ∀ (n b : Nat) (h : HT) (ht : Int), h b = some ht → 0 ≤ ht → b + P.length ≤ n → (∀ x : Int, (b : Int) < x → x ≤ (b : Int) + P.length → h x = none) →
 ∃ h', goK n (P.map (Az b)) b h = some h' ∧ h' ((b : Int) + P.length) = some (ht + 1) ∧ ∀ x : Int, (x ≤ b ∨ (b : Int) + P.length < x) → h' x = h x
theorem KP (n : Nat) : ∀ (parts : List (List IT)), (∀ P ∈ parts, BI P ∧ 1 ≤ P.length) → ∀ (b : Nat) (h : HT) (ht : Int), h b = some ht → 0 ≤ ht → b + AP parts ≤ n → (∀ x : Int, (b : Int) < x → x ≤ (b : Int) + AP parts → h x = none) →
   ∃ h', goK n (Cw parts b) b h = some h' ∧ h' ((b : Int) + AP parts) = some (ht + parts.length) ∧ ∀ x : Int, (x ≤ b ∨ (b : Int) + AP parts < x) → h' x = h x
 | [], _, b, h, ht, e, h0, hn, hx => ⟨h, rfl, by
     show h ((b : Int) + (0 : Nat)) = some (ht + (0 : Nat))
     rw [show (b : Int) + (0 : Nat) = b by omega, e, show ht + ((0 : Nat) : Int) = ht by omega], fun x _ => rfl⟩
 | P :: r, hg, b, h, ht, e, h0, hn, hx => by
   unfold AP at hn hx
   obtain ⟨hP, hP1⟩ := hg P (List.mem_cons_self)
   obtain ⟨h1, a1, a2, a3⟩ := hP n b h ht e h0 (by omega) (fun x l1 l2 => hx x l1 (by omega))
   obtain ⟨h2, b1, b2, b3⟩ := KP n r (fun Q hQ => hg Q (List.mem_cons_of_mem _ hQ)) (b + P.length) h1 (ht + 1) (by rw [show ((b + P.length : Nat) : Int) = (b : Int) + P.length by omega]; exact a2) (by omega) (by omega) (fun x l1 l2 => by rw [a3 x (Or.inr (by omega))]; exact hx x (by omega) (by omega))
   refine ⟨h2, ?_, ?_, ?_⟩
   · unfold Cw
     rw [Ff _ _ _ _ a1, List.length_map]
     exact b1
   · unfold AP
     rw [show (b : Int) + ((P.length + AP r : Nat) : Int) = ((b + P.length : Nat) : Int) + AP r by omega, b2, List.length_cons]
     congr 1
     omega
   · intro x hxx
     unfold AP at hxx
     rw [b3 x (by omega), a3 x (by omega)]
theorem OE {s : ST} (hok : s.ok = true) (h1 : s.k ≠ 21) (h2 : s.k ≠ 22) {parts : List (List IT)} (ht : s.takes = (parts.length : Int)) (hg : ∀ P ∈ parts, BI P ∧ 1 ≤ P.length) : BI (AQ s parts) := by
 intro n b h hh e h0 hn hx
 have hl : (AQ s parts).length = AP parts + 1 := by
   have e := congrArg List.length (DH (b := 0) h1 h2 parts)
   rw [List.length_map, List.length_append, Ef] at e
   exact e
 rw [hl] at hn hx ⊢
 obtain ⟨h', a1, a2, a3⟩ := KP n parts hg b h hh e h0 (by omega) (fun x l1 l2 => hx x l1 (by omega))
 have k21 := Rv hok h1 h2
 have hn1 : h' (((b + AP parts : Nat) : Int) + 1) = none := by rw [a3 _ (Or.inr (by omega))]; exact hx _ (by omega) (by omega)
 have hs : AE n ⟨1, s, 0⟩ (b + AP parts) h' = some (BR h' (((b + AP parts : Nat) : Int) + 1) (hh + 1)) := by
   unfold AE
   rw [show ((b + AP parts : Nat) : Int) = (b : Int) + AP parts by omega, a2]
   dsimp only
   rw [if_pos rfl, Gc (by rw [← hn1] <;> (congr 1 <;> omega))]
   rw [if_pos (by simp [hok, k21, ht]; omega)]
   rw [show hh + (parts.length : Int) - s.takes + 1 = hh + 1 by omega]
   rfl
 refine ⟨BR h' (((b + AP parts : Nat) : Int) + 1) (hh + 1), ?_, ?_, ?_⟩
 · rw [DH h1 h2, Ff _ _ _ _ a1, Ef, Hq hs]
   rfl
 · rw [show (b : Int) + ((AP parts + 1 : Nat) : Int) = ((b + AP parts : Nat) : Int) + 1 by omega, Ex]
 · intro x hxx
   rw [CK _ (by omega), a3 x (by omega)]
theorem KR {j k : Int} (hjk : (j = 2 ∧ k = 3) ∨ (j = 4 ∧ k = 5)) {A B : List IT} (hA : BI A) (hB : BI B) : BI (AU j k A B) := by
 intro n b h ht e h0 hn hx
 rw [Dw] at hn hx ⊢
 rw [DD]
 unfold Gn
 obtain ⟨h1, a1, a2, a3⟩ := hA n b h ht e h0 (by omega) (fun x l1 l2 => hx x l1 (by omega))
 obtain ⟨v, hv⟩ : ∃ v : Int, v = if j = 2 then ht + 1 - 1 else ht + 1 := ⟨_, rfl⟩
 have hv0 : 0 ≤ v := by rcases hjk with ⟨q, _⟩ | ⟨q, _⟩ <;> simp [q] at hv <;> omega
 have eT : h1 ((b : Int) + A.length + B.length + 2) = none := by rw [a3 _ (Or.inr (by omega))]; exact hx _ (by omega) (by omega)
 have eN : (BR h1 ((b : Int) + A.length + B.length + 2) (ht + 1)) (((b + A.length : Nat) : Int) + 1) = none := by
   rw [CK _ (by omega), a3 _ (Or.inr (by omega))]; exact hx _ (by omega) (by omega)
 have hs : AE n ⟨j, zS, (b : Int) + A.length + B.length + 2⟩ (b + A.length) h1 = some (BR (BR h1 ((b : Int) + A.length + B.length + 2) (ht + 1)) (((b + A.length : Nat) : Int) + 1) v) := by
   unfold AE
   rw [show h1 (((b + A.length : Nat) : Int)) = some (ht + 1) by rw [← a2] <;> (congr 1 <;> omega)]
   dsimp only
   rw [if_neg (by omega), if_pos (by omega), ← hv]
   rw [if_pos]
   · rfl
   · rw [Gc eT, Jh, Gc (h := (AN h1 ((b : Int) + A.length + B.length + 2) (ht + 1)).1) eN]
     simp
     omega
 obtain ⟨h2, hh2⟩ : ∃ h2, h2 = BR (BR h1 ((b : Int) + A.length + B.length + 2) (ht + 1)) (((b + A.length : Nat) : Int) + 1) v := ⟨_, rfl⟩
 rw [← hh2] at hs
 have f1 : h2 ((b + A.length + 1 : Nat) : Int) = some v := by rw [hh2, show ((b + A.length + 1 : Nat) : Int) = ((b + A.length : Nat) : Int) + 1 by omega, Ex]
 have f2 : h2 ((b : Int) + A.length + B.length + 2) = some (ht + 1) := by rw [hh2, CK _ (by omega), Ex]
 have f3 : ∀ x : Int, x ≠ (b : Int) + A.length + B.length + 2 → x ≠ ((b + A.length : Nat) : Int) + 1 → h2 x = h1 x := fun x n1 n2 => by rw [hh2, CK _ n2, CK _ n1]
 obtain ⟨h3, b1, b2, b3⟩ := hB n (b + A.length + 1) h2 v f1 hv0 (by omega) (fun x l1 l2 => by rw [f3 x (by omega) (by omega), a3 _ (Or.inr (by omega))]; exact hx x (by omega) (by omega))
 have g1 : h3 ((b : Int) + A.length + B.length + 2) = some (ht + 1) := by rw [b3 _ (Or.inr (by omega)), f2]
 have hs2 : AE n ⟨k, zS, 0⟩ (b + A.length + 1 + B.length) h3 = some (BR h3 ((b : Int) + A.length + B.length + 2) (ht + 1)) := by
   unfold AE
   rw [show h3 (((b + A.length + 1 + B.length : Nat) : Int)) = some (v + 1) by rw [← b2] <;> (congr 1 <;> omega)]
   dsimp only
   rw [show ((b + A.length + 1 + B.length : Nat) : Int) + 1 = (b : Int) + A.length + B.length + 2 by omega]
   rcases hjk with ⟨q1, q2⟩ | ⟨q1, q2⟩
   · rw [if_pos q1] at hv
     rw [if_neg (by omega), if_neg (by omega), if_pos q2, show v + 1 = ht + 1 by omega, Jy g1, Jh, if_pos (by simp; omega)]
     rfl
   · rw [if_neg (by omega)] at hv
     rw [if_neg (by omega), if_neg (by omega), if_neg (by omega), if_pos q2, show v + 1 - 1 = ht + 1 by omega, Jy g1, Jh, if_pos (by simp; omega)]
     rfl
 refine ⟨BR h3 ((b : Int) + A.length + B.length + 2) (ht + 1), ?_, ?_, ?_⟩
 · rw [Ff _ _ _ _ a1, List.length_map, Hq hs, Ff _ _ _ _ b1, List.length_map, Hq hs2]
   rfl
 · rw [show (b : Int) + ((A.length + B.length + 2 : Nat) : Int) = (b : Int) + A.length + B.length + 2 by omega, Ex]
 · intro x hxx
   rw [CK _ (by omega), b3 x (by omega), f3 x (by omega) (by omega), a3 x (by omega)]
theorem Oo {s : ST} (hok : s.ok = true) {parts : List (List IT)} (ht : s.takes = (parts.length : Int)) (hg : ∀ P ∈ parts, BI P ∧ 1 ≤ P.length) : BI (AQ s parts) := by
 by_cases h1 : s.k = 21
 · rw [DB (Or.inl h1)] at ht
   match parts, ht, hg with
   | [A, B], _, hg =>
     have e : AQ s [A, B] = AU 2 3 A B := by unfold AQ; rw [if_pos h1]; rfl
     rw [e]
     exact KR (Or.inl ⟨rfl, rfl⟩) (hg A (by simp)).1 (hg B (by simp)).1
 by_cases h2 : s.k = 22
 · rw [DB (Or.inr h2)] at ht
   match parts, ht, hg with
   | [A, B], _, hg =>
     have e : AQ s [A, B] = AU 4 5 A B := by unfold AQ; rw [if_neg h1, if_pos h2]; rfl
     rw [e]
     exact KR (Or.inr ⟨rfl, rfl⟩) (hg A (by simp)).1 (hg B (by simp)).1
 exact OE hok h1 h2 ht hg
theorem Hv : ∀ (a b : List (List IT)), AP (a ++ b) = AP a + AP b
 | [], b => by simp [AP]
 | p :: r, b => by
   show p.length + AP (r ++ b) = p.length + AP r + AP b
   rw [Hv r b]
   omega
theorem Qk {stk : List (List IT)} {s : ST} (hok : s.ok = true) (h0 : 0 ≤ s.takes) (hl : s.takes ≤ (stk.length : Int)) (hg : ∀ P ∈ stk, BI P ∧ 1 ≤ P.length) :
   (∀ P ∈ Ba stk s, BI P ∧ 1 ≤ P.length) ∧ ((Ba stk s).length : Int) = stk.length - (s.takes - 1) ∧ AP (Ba stk s) ≤ AP stk + 2 := by
 have hd : (stk.drop (stk.length - s.takes.toNat)).length = s.takes.toNat := by rw [List.length_drop]; omega
 have ht : s.takes = ((stk.drop (stk.length - s.takes.toNat)).length : Int) := by rw [hd]; omega
 have hgd : ∀ P ∈ stk.drop (stk.length - s.takes.toNat), BI P ∧ 1 ≤ P.length := fun P hP => hg P (List.mem_of_mem_drop hP)
 have hpl := PU s ht
 refine ⟨fun P hP => ?_, ?_, ?_⟩
 · unfold Ba at hP
   rcases List.mem_append.mp hP with hP | hP
   · exact hg P (List.mem_of_mem_take hP)
   · obtain rfl := List.mem_singleton.mp hP
     exact ⟨Oo hok ht hgd, hpl.1⟩
 · unfold Ba
   rw [List.length_append, List.length_take, List.length_singleton]
   omega
 · unfold Ba
   rw [Hv]
   have e := Hv (stk.take (stk.length - s.takes.toNat)) (stk.drop (stk.length - s.takes.toNat))
   rw [List.take_append_drop] at e
   have : AP [AQ s (stk.drop (stk.length - s.takes.toNat))] = (AQ s (stk.drop (stk.length - s.takes.toNat))).length := by simp [AP]
   omega
theorem JK : ∀ (l : List ST) (stk : List (List IT)) (m : Int), l.foldl As (some (stk.length : Int)) = some m → (∀ P ∈ stk, BI P ∧ 1 ≤ P.length) →
   (∀ P ∈ AO l stk, BI P ∧ 1 ≤ P.length) ∧ ((AO l stk).length : Int) = m ∧ AP (AO l stk) ≤ AP stk + 2 * l.length
 | [], stk, m, h, hg => ⟨hg, Option.some.inj h, Nat.le_refl _⟩
 | s :: l, stk, m, h, hg => by
   obtain ⟨m1, h1, h2⟩ := Dp h
   obtain ⟨hok, t0, tl, e⟩ := Dq h1
   obtain ⟨a1, a2, a3⟩ := Qk hok t0 tl hg
   obtain ⟨b1, b2, b3⟩ := JK l (Ba stk s) m (by rw [a2, ← e]; exact h2) a1
   refine ⟨b1, b2, ?_⟩
   have : AO (s :: l) stk = AO l (Ba stk s) := rfl
   rw [this, List.length_cons]
   omega
theorem K3 {l : List ST} (h : Av l = true) : ∃ P, AO l [] = [P] ∧ AB l = (P, 0) ∧ BI P ∧ 1 ≤ P.length ∧ P.length ≤ 256 := by
 obtain ⟨hr, hlen⟩ := C4 h
 obtain ⟨a1, a2, a3⟩ := JK l [] 1 hr (fun P hP => absurd hP (List.not_mem_nil))
 have : ∃ P, AO l [] = [P] := by
   match hs : AO l [], a2 with
   | [P], _ => exact ⟨P, rfl⟩
 obtain ⟨P, hP⟩ := this
 rw [hP] at a1 a3
 have hp := a1 P (List.mem_singleton.mpr rfl)
 refine ⟨P, hP, ?_, hp.1, hp.2, ?_⟩
 · unfold AB
   rw [if_pos h, hP]
   rfl
 · simp only [AP] at a3
   omega
theorem FD (P : List IT) : P.map (Az 0) = P := by
 conv => rhs; rw [← List.map_id P]
 apply List.map_congr_left
 intro x _
 unfold Az
 split
 · show (⟨x.op, x.s, x.tgt + ((0 : Nat) : Int)⟩ : IT) = x
   rw [show x.tgt + ((0 : Nat) : Int) = x.tgt by omega]
 · rfl
theorem NL {P : List IT} (h : BI P) (h1 : 1 ≤ P.length) (h2 : P.length ≤ 256) : AL P = 0 := by
 obtain ⟨h', a1, a2, _⟩ := h P.length 0 H0 0 (by unfold H0; exact Ex _ _ _) (Int.le_refl _) (by omega) (fun x l1 l2 => by unfold H0; rw [CK _ (by omega)])
 rw [FD] at a1
 unfold AL
 rw [if_pos ⟨h1, h2⟩, a1]
 dsimp only
 rw [show ((P.length : Nat) : Int) = ((0 : Nat) : Int) + P.length by omega, a2]
 rfl
/- What a compiled program comes to (plain). -/
def All2 {α β : Type} (R : α → β → Prop) : List α → List β → Prop
 | [], [] => True
 | a :: l, b :: m => R a b ∧ All2 R l m
 | _, _ => False
theorem All2.len {α β : Type} {R : α → β → Prop} : ∀ {l : List α} {m : List β}, All2 R l m → l.length = m.length
 | [], [], _ => rfl
 | _ :: _, _ :: _, h => by rw [List.length_cons, List.length_cons, All2.len h.2]
 | [], _ :: _, h => h.elim
 | _ :: _, [], h => h.elim
theorem All2.take {α β : Type} {R : α → β → Prop} : ∀ (n : Nat) {l : List α} {m : List β}, All2 R l m → All2 R (l.take n) (m.take n)
 | 0, _, _, _ => trivial
 | n + 1, [], [], _ => trivial
 | n + 1, _ :: _, _ :: _, h => ⟨h.1, All2.take n h.2⟩
 | _ + 1, [], _ :: _, h => h.elim
 | _ + 1, _ :: _, [], h => h.elim
theorem All2.drop {α β : Type} {R : α → β → Prop} : ∀ (n : Nat) {l : List α} {m : List β}, All2 R l m → All2 R (l.drop n) (m.drop n)
 | 0, _, _, h => h
 | n + 1, [], [], _ => trivial
 | n + 1, _ :: _, _ :: _, h => All2.drop n h.2
 | _ + 1, [], _ :: _, h => h.elim
 | _ + 1, _ :: _, [], h => h.elim
theorem All2.app {α β : Type} {R : α → β → Prop} : ∀ {l : List α} {m : List β} {l' : List α} {m' : List β}, All2 R l m → All2 R l' m' → All2 R (l ++ l') (m ++ m')
 | [], [], _, _, _, k => k
 | _ :: _, _ :: _, _, _, h, k => ⟨h.1, All2.app h.2 k⟩
 | [], _ :: _, _, _, h, _ => h.elim
 | _ :: _, [], _, _, h, _ => h.elim
def Code (Q : List IT) (b : Nat) (L : List IT) : Prop := ∃ pre post, Q = pre ++ L ++ post ∧ pre.length = b
theorem Code.app {Q : List IT} {b : Nat} {L M : List IT} (h : Code Q b (L ++ M)) : Code Q b L ∧ Code Q (b + L.length) M := by
 obtain ⟨pre, post, e, hb⟩ := h
 refine ⟨⟨pre, M ++ post, by rw [e]; simp, hb⟩, ⟨pre ++ L, post, by rw [e]; simp, by rw [List.length_append, hb]⟩⟩
theorem Code.cons {Q : List IT} {b : Nat} {x : IT} {M : List IT} (h : Code Q b (x :: M)) : Q[b]? = some x ∧ Code Q (b + 1) M := by
 obtain ⟨pre, post, e, hb⟩ := h
 refine ⟨?_, ⟨pre ++ [x], post, by rw [e]; simp, by rw [List.length_append, hb]; rfl⟩⟩
 rw [e, ← hb]
 simp
theorem BB {Q : List IT} {row : VT} {b : Nat} {x : IT} (h : Q[b]? = some x) (f : Nat) (vs : List VT) :
  AD Q row (f + 1) b vs = if (opR row x vs ((b : Int) + 1)).1 ≠ 0 then ((Am, (opR row x vs ((b : Int) + 1)).1), f) else AD Q row f (opR row x vs ((b : Int) + 1)).2.2.toNat (opR row x vs ((b : Int) + 1)).2.1 := by
 obtain ⟨hb, e⟩ := List.getElem?_eq_some_iff.mp h
 rw [AD, dif_pos hb, e]
def Cc (r : Rz) : Prop := r.2 ≠ 0 → r.1 = Am
def BE (row : VT) (P : List IT) (r : Rz) : Prop := Cc r ∧ 1 ≤ P.length ∧ ∀ (Q : List IT) (b : Nat) (vs : List VT), Code Q b (P.map (Az b)) →
 ∃ n, 1 ≤ n ∧ n ≤ P.length ∧ ∀ f, AD Q row (f + n) b vs = if r.2 ≠ 0 then ((Am, r.2), f) else AD Q row f (b + P.length) (vs ++ [r.1])
theorem FI (vs : List VT) (v : VT) : Bz (vs ++ [v]) = v := by
 unfold Bz
 rw [List.length_append, List.length_singleton, Nat.add_sub_cancel, List.getD_eq_getElem?_getD, List.getElem?_append_right (Nat.le_refl _), Nat.sub_self]
 rfl
theorem KQ (row : VT) (Q : List IT) : ∀ (parts : List (List IT)) (rs : List Rz), All2 (BE row) parts rs → ∀ (b : Nat) (vs : List VT), Code Q b (Cw parts b) →
   ∃ n, n ≤ AP parts ∧ (parts.length ≠ 0 → 1 ≤ n) ∧ ∀ f, AD Q row (f + n) b vs = match AV rs with | .error e => ((Am, e), f) | .ok us => AD Q row f (b + AP parts) (vs ++ us)
 | [], [], _, b, vs, _ => ⟨0, Nat.le_refl _, fun h => absurd rfl h, fun f => by
     show AD Q row f b vs = AD Q row f (b + 0) (vs ++ [])
     rw [List.append_nil]; rfl⟩
 | P :: r, x :: rs, h, b, vs, hc => by
   unfold Cw at hc
   obtain ⟨c1, c2⟩ := hc.app
   rw [List.length_map] at c2
   obtain ⟨⟨hni, hP1, hP⟩, hr⟩ := h
   obtain ⟨n1, l1, l2, e1⟩ := hP Q b vs c1
   unfold AP
   by_cases hx : x.2 ≠ 0
   · refine ⟨n1, by omega, fun _ => l1, fun f => ?_⟩
     rw [e1, if_pos hx]
     unfold AV
     rw [if_pos hx]
   · obtain ⟨n2, l3, _, e2⟩ := KQ row Q r rs hr (b + P.length) (vs ++ [x.1]) c2
     refine ⟨n1 + n2, by omega, fun _ => by omega, fun f => ?_⟩
     rw [show f + (n1 + n2) = f + n2 + n1 by omega, e1, if_neg hx, e2]
     conv => rhs; unfold AV
     rw [if_neg hx]
     cases AV rs with
     | error e => rfl
     | ok us =>
       show AD Q row f (b + P.length + AP r) (vs ++ [x.1] ++ us) = AD Q row f (b + (P.length + AP r)) (vs ++ (x.1 :: us))
       rw [List.append_assoc, Nat.add_assoc]
       rfl
 | [], _ :: _, h, _, _, _ => h.elim
 | _ :: _, [], h, _, _, _ => h.elim
theorem Mc : ∀ {rs : List Rz} {us : List VT}, AV rs = .ok us → rs = us.map fun v => (v, 0)
 | [], us, h => by unfold AV at h; cases h; rfl
 | r :: l, us, h => by
   unfold AV at h
   by_cases hr : r.2 ≠ 0
   · rw [if_pos hr] at h; cases h
   · rw [if_neg hr] at h
     cases ha : AV l with
     | error e => rw [ha] at h; cases h
     | ok vs =>
       rw [ha] at h
       cases h
       rw [List.map_cons, ← Mc ha]
       congr 1
       obtain ⟨r1, r2⟩ := r
       have : r2 = 0 := Decidable.not_not.mp hr
       rw [this]
theorem EU : ∀ {rs : List Rz} {e : Int}, AV rs = .error e → e ≠ 0 ∧ rs.isEmpty = false
 | [], e, h => by unfold AV at h; cases h
 | r :: l, e, h => by
   unfold AV at h
   by_cases hr : r.2 ≠ 0
   · rw [if_pos hr] at h; cases h; exact ⟨hr, rfl⟩
   · rw [if_neg hr] at h
     cases ha : AV l with
     | error e' => rw [ha] at h; cases h; exact ⟨(EU ha).1, rfl⟩
     | ok vs => rw [ha] at h; cases h
theorem Rx {s : ST} (row : VT) (h1 : s.k ≠ 21) (h2 : s.k ≠ 22) {rs : List Rz} {e : Int} (h : AV rs = .error e) : AX s row rs = (Am, e) := by
 have hm : ∀ nm, Cb nm rs = (Am, e) := fun nm => by unfold Cb; rw [h]
 unfold AX
 rw [hm, hm, if_neg (fun q : s.k = 21 ∨ s.k = 22 => q.elim h1 h2), (EU h).2]
 unfold Dm
 rw [h]
 simp
theorem Dx (v : VT) : Cc (v, 0) := fun h => absurd rfl h
theorem Cy (e : Int) : Cc (Am, e) := fun _ => rfl
theorem KW (v : VT) : Cc (C3 v) := by unfold C3; split; exact Dx _; exact Cy _
theorem Ob (nm : Option (List ByteArray)) (l : List Rz) : Cc (Cb nm l) := by
 unfold Cb
 cases AV l with
 | error e => exact Cy _
 | ok vs => exact KW _
theorem Oa (s : ST) (row : VT) : Cc (F0 s row) := by unfold F0; (repeat' split) <;> (exact Dx _)
theorem KX (k : Int) (a b : VT) : Cc (BF k a b) := by
 unfold BF
 split
 · split
   · exact Dx _
   · exact Cy _
 · exact Cy _
theorem NZ (k : Int) (a b : VT) : Cc (DT k a b) := by unfold DT; (repeat' split) <;> (first | exact Dx _ | exact Cy _)
theorem Oc (k : Int) (l : List Rz) : Cc (Dm k l) := by
 unfold Dm
 cases AV l with
 | error e => exact Cy _
 | ok vs => dsimp only; (repeat' split) <;> (first | exact Dx _ | exact Cy _ | exact KX _ _ _ | exact NZ _ _ _)
theorem J9 {r : Rz} (h : Cc r) : Cc (A4 r) := by unfold A4; (repeat' split) <;> (first | exact Cy _ | exact h)
theorem F2 (o : Bool) {a b : Rz} (ha : Cc a) (hb : Cc b) : Cc (B3 o a b) := by
 unfold B3; (repeat' split) <;> (first | exact J9 ha | exact J9 hb | exact Dx _)
theorem PG (s : ST) (row : VT) {l : List Rz} (h : ∀ r ∈ l, Cc r) : Cc (AX s row l) := by
 have hg : ∀ i, Cc (l.getD i (Am, 0)) := fun i => by
  rw [List.getD_eq_getElem?_getD]
  cases hi : l[i]? with
  | none => exact Dx _
  | some r => exact h r (List.mem_of_getElem? hi)
 unfold AX
 repeat' split
 all_goals first | exact Ob _ _ | exact F2 _ (hg 0) (hg 1) | exact Oa _ _ | exact Oc _ _
theorem Oq {row : VT} {s : ST} (h1 : s.k ≠ 21) (h2 : s.k ≠ 22) {parts : List (List IT)} {rs : List Rz} (ht : s.takes = (parts.length : Int)) (hg : All2 (BE row) parts rs) (hn : ∀ r ∈ rs, Cc r) : BE row (AQ s parts) (AX s row rs) := by
 have hl : (AQ s parts).length = AP parts + 1 := by
   have e := congrArg List.length (DH (b := 0) h1 h2 parts)
   rw [List.length_map, List.length_append, Ef] at e
   exact e
 refine ⟨PG s row hn, by omega, fun Q b vs hc => ?_⟩
 rw [DH h1 h2] at hc
 obtain ⟨c1, c2⟩ := hc.app
 rw [Ef] at c2
 obtain ⟨hx, _⟩ := c2.cons
 obtain ⟨n, ln, ln1, e⟩ := KQ row Q parts rs hg b vs c1
 have hlen := hg.len
 cases ha : AV rs with
 | error e1 =>
   obtain ⟨he, hne⟩ := EU ha
   have hp : parts.length ≠ 0 := by
    rw [hlen]
    intro h0
    rw [List.length_eq_zero_iff.mp h0] at hne
    cases hne
   refine ⟨n, ln1 hp, by omega, fun f => ?_⟩
   have e3 := e f
   rw [ha] at e3
   rw [e3, Rx row h1 h2 ha, if_pos he]
 | ok us =>
   have hr := Mc ha
   refine ⟨n + 1, by omega, by omega, fun f => ?_⟩
   have e2 := e (f + 1)
   rw [ha] at e2
   dsimp only at e2
   have hul : us.length = parts.length := by rw [hlen, hr, List.length_map]
   have hd : (vs ++ us).drop ((vs ++ us).length - s.takes.toNat) = us := by
    rw [List.length_append, show vs.length + us.length - s.takes.toNat = vs.length by omega, List.drop_left]
   have hk : (vs ++ us).take ((vs ++ us).length - s.takes.toNat) = vs := by
    rw [List.length_append, show vs.length + us.length - s.takes.toNat = vs.length by omega, List.take_left]
   have hap : BZ s row us = AX s row rs := by unfold BZ; rw [← hr]
   have ho : opR row ⟨1, s, 0⟩ (vs ++ us) (((b + AP parts : Nat) : Int) + 1) = ((AX s row rs).2, vs ++ [(AX s row rs).1], ((b + AP parts : Nat) : Int) + 1) := by
    unfold opR
    rw [if_pos rfl]
    dsimp only
    rw [hd, hk, hap]
   rw [show f + (n + 1) = f + 1 + n by omega, e2, BB hx, ho, hl]
   dsimp only
   rw [show (((b + AP parts : Nat) : Int) + 1).toNat = b + (AP parts + 1) by omega]
theorem D9 (v : VT) : Bf v = 0 ∨ Bf v = 5 := by unfold Bf; split; exact Or.inr rfl; exact Or.inl rfl
theorem EG {r : Rz} (h : r.2 ≠ 0) : A4 r = (Am, r.2) := by unfold A4; rw [if_pos h]
theorem DQ {r : Rz} (h : ¬ r.2 ≠ 0) (hf : Bf r.1 ≠ 0) : A4 r = (Am, 5) ∧ Bf r.1 = 5 := by
 unfold Bf at hf ⊢
 by_cases hk : 1 < r.1.kind
 · unfold A4; rw [if_neg h, if_pos hk, if_pos hk]; exact ⟨rfl, rfl⟩
 · rw [if_neg hk] at hf; exact absurd rfl hf
theorem Ek {r : Rz} (h : ¬ r.2 ≠ 0) (hf : ¬ Bf r.1 ≠ 0) : A4 r = r := by
 unfold Bf at hf
 by_cases hk : 1 < r.1.kind
 · rw [if_pos hk] at hf; exact absurd (by decide) hf
 · unfold A4; rw [if_neg h, if_neg hk]
theorem DV {o : Bool} {a b : Rz} (h : (A4 a).2 ≠ 0) : B3 o a b = A4 a := by unfold B3; rw [if_pos]; simp [h]
theorem GT {o : Bool} {a b : Rz} (h : (A4 a).1.bool = o) : B3 o a b = A4 a := by unfold B3; rw [if_pos]; simp [h]
theorem RY {a b : Rz} (h : ¬ (A4 a).2 ≠ 0) (hb : (A4 a).1.bool = true) : B3 false a b = A4 b := by
 unfold B3
 rw [if_neg, if_neg]
 · simp
 · simp [hb, Decidable.not_not.mp h]
theorem SO {a b : Rz} (h : ¬ (A4 a).2 ≠ 0) (hb : (A4 a).1.bool = false) : B3 true a b = if (A4 b).2 = 0 ∧ (A4 b).1.bool = false ∧ (A4 a).1.kind = 0 then ((A4 a).1, 0) else A4 b := by
 unfold B3
 rw [if_neg]
 · congr 1
   simp [Bool.and_assoc]
 · simp [hb, Decidable.not_not.mp h]
theorem Pe {row : VT} {A B : List IT} {ra rb : Rz} (hA : BE row A ra) (hB : BE row B rb) : BE row (AU 2 3 A B) (B3 false ra rb) := by
 obtain ⟨na, la, hA⟩ := hA
 obtain ⟨nb, lb, hB⟩ := hB
 refine ⟨F2 _ na nb, by rw [Dw]; omega, fun Q b vs hc => ?_⟩
 rw [DD] at hc
 unfold Gn at hc
 obtain ⟨c1, c2⟩ := hc.app
 rw [List.length_map] at c2
 obtain ⟨x1, c3⟩ := c2.cons
 obtain ⟨c4, c5⟩ := c3.app
 rw [List.length_map] at c5
 obtain ⟨x2, _⟩ := c5.cons
 obtain ⟨m, m1, m2, e1⟩ := hA Q b vs c1
 obtain ⟨m', m3, m4, e2⟩ := hB Q (b + A.length + 1) vs c4
 rw [Dw]
 by_cases ha : ra.2 ≠ 0
 · refine ⟨m, m1, by omega, fun f => ?_⟩
   have hf := EG ha
   rw [e1, if_pos ha, DV (by rw [hf]; exact ha), hf, if_pos ha]
 have o1 : opR row ⟨2, zS, (b : Int) + A.length + B.length + 2⟩ (vs ++ [ra.1]) (((b + A.length : Nat) : Int) + 1) = (Bf ra.1, if ra.1.bool then vs else vs ++ [ra.1], if ra.1.bool then ((b + A.length : Nat) : Int) + 1 else (b : Int) + A.length + B.length + 2) := by
   unfold opR
   rw [if_neg (by dsimp only; decide), if_pos rfl, FI]
   dsimp only
   rw [List.length_append, List.length_singleton, Nat.add_sub_cancel, List.take_left]
 by_cases hfa : Bf ra.1 ≠ 0
 · refine ⟨m + 1, by omega, by omega, fun f => ?_⟩
   obtain ⟨q1, q2⟩ := DQ ha hfa
   rw [show f + (m + 1) = f + 1 + m by omega, e1, if_neg ha, BB x1, o1, if_pos hfa, DV (by rw [q1]; decide), q1, q2]
   rfl
 have hra := Ek ha hfa
 cases hbo : ra.1.bool with
 | false =>
   refine ⟨m + 1, by omega, by omega, fun f => ?_⟩
   rw [show f + (m + 1) = f + 1 + m by omega, e1, if_neg ha, BB x1, o1, if_neg hfa, GT (by rw [hra]; exact hbo), hra, if_neg ha, hbo]
   simp only [Bool.false_eq_true, if_false]
   rw [show ((b : Int) + A.length + B.length + 2).toNat = b + (A.length + B.length + 2) by omega]
 | true =>
   rw [RY (by rw [hra]; exact ha) (by rw [hra]; exact hbo)]
   have s1 : ∀ f, AD Q row (f + m' + 1 + m) b vs = AD Q row (f + m') (b + A.length + 1) vs := fun f => by
     rw [e1, if_neg ha, BB x1, o1, if_neg hfa, hbo]
     simp only [if_true]
     rw [show (((b + A.length : Nat) : Int) + 1).toNat = b + A.length + 1 by omega]
   by_cases hb : rb.2 ≠ 0
   · refine ⟨m' + 1 + m, by omega, by omega, fun f => ?_⟩
     rw [show f + (m' + 1 + m) = f + m' + 1 + m by omega, s1, e2, if_pos hb, EG hb, if_pos hb]
   have o2 : opR row ⟨3, zS, 0⟩ (vs ++ [rb.1]) (((b + A.length + 1 + B.length : Nat) : Int) + 1) = (Bf rb.1, vs ++ [rb.1], ((b + A.length + 1 + B.length : Nat) : Int) + 1) := by
     unfold opR
     rw [if_neg (by dsimp only; decide), if_neg (by dsimp only; decide), if_neg (by dsimp only; decide), if_pos rfl, FI]
   refine ⟨1 + m' + 1 + m, by omega, by omega, fun f => ?_⟩
   rw [show f + (1 + m' + 1 + m) = f + 1 + m' + 1 + m by omega, s1, e2, if_neg hb, BB x2, o2]
   dsimp only
   by_cases hfb : Bf rb.1 ≠ 0
   · obtain ⟨q1, q2⟩ := DQ hb hfb
     rw [if_pos hfb, q1, q2]
     rfl
   · rw [if_neg hfb, Ek hb hfb, if_neg hb, show (((b + A.length + 1 + B.length : Nat) : Int) + 1).toNat = b + (A.length + B.length + 2) by omega]
theorem R1 {row : VT} {A B : List IT} {ra rb : Rz} (hA : BE row A ra) (hB : BE row B rb) : BE row (AU 4 5 A B) (B3 true ra rb) := by
 obtain ⟨na, la, hA⟩ := hA
 obtain ⟨nb, lb, hB⟩ := hB
 refine ⟨F2 _ na nb, by rw [Dw]; omega, fun Q b vs hc => ?_⟩
 rw [DD] at hc
 unfold Gn at hc
 obtain ⟨c1, c2⟩ := hc.app
 rw [List.length_map] at c2
 obtain ⟨x1, c3⟩ := c2.cons
 obtain ⟨c4, c5⟩ := c3.app
 rw [List.length_map] at c5
 obtain ⟨x2, _⟩ := c5.cons
 obtain ⟨m, m1, m2, e1⟩ := hA Q b vs c1
 obtain ⟨m', m3, m4, e2⟩ := hB Q (b + A.length + 1) (vs ++ [ra.1]) c4
 rw [Dw]
 by_cases ha : ra.2 ≠ 0
 · refine ⟨m, m1, by omega, fun f => ?_⟩
   have hf := EG ha
   rw [e1, if_pos ha, DV (by rw [hf]; exact ha), hf, if_pos ha]
 have o1 : opR row ⟨4, zS, (b : Int) + A.length + B.length + 2⟩ (vs ++ [ra.1]) (((b + A.length : Nat) : Int) + 1) = (Bf ra.1, vs ++ [ra.1], if ra.1.bool then (b : Int) + A.length + B.length + 2 else ((b + A.length : Nat) : Int) + 1) := by
   unfold opR
   rw [if_neg (by dsimp only; decide), if_neg (by dsimp only; decide), if_pos rfl, FI]
 by_cases hfa : Bf ra.1 ≠ 0
 · refine ⟨m + 1, by omega, by omega, fun f => ?_⟩
   obtain ⟨q1, q2⟩ := DQ ha hfa
   rw [show f + (m + 1) = f + 1 + m by omega, e1, if_neg ha, BB x1, o1, if_pos hfa, DV (by rw [q1]; decide), q1, q2]
   rfl
 have hra := Ek ha hfa
 cases hbo : ra.1.bool with
 | true =>
   refine ⟨m + 1, by omega, by omega, fun f => ?_⟩
   rw [show f + (m + 1) = f + 1 + m by omega, e1, if_neg ha, BB x1, o1, if_neg hfa, GT (by rw [hra]; exact hbo), hra, if_neg ha, hbo]
   simp only [if_true]
   rw [show ((b : Int) + A.length + B.length + 2).toNat = b + (A.length + B.length + 2) by omega]
 | false =>
   rw [SO (by rw [hra]; exact ha) (by rw [hra]; exact hbo), hra]
   have s1 : ∀ f, AD Q row (f + m' + 1 + m) b vs = AD Q row (f + m') (b + A.length + 1) (vs ++ [ra.1]) := fun f => by
     rw [e1, if_neg ha, BB x1, o1, if_neg hfa, hbo]
     simp only [Bool.false_eq_true, if_false]
     rw [show (((b + A.length : Nat) : Int) + 1).toNat = b + A.length + 1 by omega]
   by_cases hb : rb.2 ≠ 0
   · refine ⟨m' + 1 + m, by omega, by omega, fun f => ?_⟩
     have hr : (if (A4 rb).2 = 0 ∧ (A4 rb).1.bool = false ∧ ra.1.kind = 0 then (ra.1, 0) else A4 rb) = (Am, rb.2) := by
       rw [EG hb]
       exact if_neg (fun q => hb q.1)
     rw [hr, show f + (m' + 1 + m) = f + m' + 1 + m by omega, s1, e2, if_pos hb, if_pos hb]
   have hfa0 : Bf ra.1 = 0 := Decidable.not_not.mp hfa
   have o2 : opR row ⟨5, zS, 0⟩ (vs ++ [ra.1] ++ [rb.1]) (((b + A.length + 1 + B.length : Nat) : Int) + 1) = (Bf rb.1, vs ++ [if !rb.1.bool && ra.1.kind == 0 then ra.1 else rb.1], ((b + A.length + 1 + B.length : Nat) : Int) + 1) := by
     have g1 : (vs ++ [ra.1] ++ [rb.1]).getD ((vs ++ [ra.1] ++ [rb.1]).length - 2) Am = ra.1 := by
       rw [List.append_assoc, List.length_append, show vs.length + ([ra.1] ++ [rb.1]).length - 2 = vs.length from Nat.add_sub_cancel _ 2, List.getD_eq_getElem?_getD, List.getElem?_append_right (Nat.le_refl _), Nat.sub_self]
       rfl
     have g2 : (vs ++ [ra.1] ++ [rb.1]).take ((vs ++ [ra.1] ++ [rb.1]).length - 2) = vs := by
       rw [List.append_assoc, List.length_append, show vs.length + ([ra.1] ++ [rb.1]).length - 2 = vs.length from Nat.add_sub_cancel _ 2, List.take_left]
     unfold opR
     rw [if_neg (by dsimp only; decide), if_neg (by dsimp only; decide), if_neg (by dsimp only; decide), if_neg (by dsimp only; decide), FI, g1, g2, hfa0]
     congr 1
     rcases D9 rb.1 with q | q <;> rw [q] <;> decide
   refine ⟨1 + m' + 1 + m, by omega, by omega, fun f => ?_⟩
   rw [show f + (1 + m' + 1 + m) = f + 1 + m' + 1 + m by omega, s1, e2, if_neg hb, BB x2, o2]
   dsimp only
   by_cases hfb : Bf rb.1 ≠ 0
   · obtain ⟨q1, q2⟩ := DQ hb hfb
     have hr : (if (A4 rb).2 = 0 ∧ (A4 rb).1.bool = false ∧ ra.1.kind = 0 then (ra.1, 0) else A4 rb) = (Am, 5) := by
       rw [q1]
       exact if_neg (fun q => absurd (show (5 : Int) = 0 from q.1) (by decide))
     rw [hr, if_pos hfb, q2]
     rfl
   · have hb0 : rb.2 = 0 := Decidable.not_not.mp hb
     rw [if_neg hfb, show (((b + A.length + 1 + B.length : Nat) : Int) + 1).toNat = b + (A.length + B.length + 2) by omega]
     by_cases hq : rb.1.bool = false ∧ ra.1.kind = 0
     · have hr : (if (A4 rb).2 = 0 ∧ (A4 rb).1.bool = false ∧ ra.1.kind = 0 then (ra.1, 0) else A4 rb) = (ra.1, 0) := by
        rw [Ek hb hfb]
        exact if_pos ⟨hb0, hq⟩
       rw [hr, if_neg (fun h => absurd rfl h), if_pos (by simp [hq.1, hq.2])]
     · have hr : (if (A4 rb).2 = 0 ∧ (A4 rb).1.bool = false ∧ ra.1.kind = 0 then (ra.1, 0) else A4 rb) = rb := by
        rw [Ek hb hfb]
        exact if_neg (fun h => hq h.2)
       rw [hr, if_neg hb, if_neg (by simpa using hq)]
theorem OR {α : Type} {l : List α} (h : l.length = 2) : ∃ a b, l = [a, b] := by
 match l, h with
 | [a, b], _ => exact ⟨a, b, rfl⟩
theorem Np {row : VT} {stk : List (List IT)} {rs : List Rz} {s : ST} (hok : s.ok = true) (h0 : 0 ≤ s.takes) (hl : s.takes ≤ (stk.length : Int)) (hg : All2 (BE row) stk rs) (hn : ∀ r ∈ rs, Cc r) :
   All2 (BE row) (Ba stk s) (BV row rs s) ∧ ∀ r ∈ BV row rs s, Cc r := by
 have hlen := hg.len
 have hd : s.takes = ((stk.drop (stk.length - s.takes.toNat)).length : Int) := by rw [List.length_drop]; omega
 have hgd := hg.drop (stk.length - s.takes.toNat)
 have hnd : ∀ r ∈ rs.drop (stk.length - s.takes.toNat), Cc r := fun r hr => hn r (List.mem_of_mem_drop hr)
 have hp : BE row (AQ s (stk.drop (stk.length - s.takes.toNat))) (AX s row (rs.drop (stk.length - s.takes.toNat))) := by
   by_cases h1 : s.k = 21 ∨ s.k = 22
   · have ht2 := DB h1
     generalize stk.drop (stk.length - s.takes.toNat) = P at *
     generalize rs.drop (stk.length - s.takes.toNat) = R at *
     obtain ⟨A, B, rfl⟩ := OR (l := P) (by omega)
     obtain ⟨ra, rb, rfl⟩ := OR (l := R) (by rw [← hgd.len]; rfl)
     have hgd : BE row A ra ∧ BE row B rb ∧ True := hgd
     · clear hd
       have n7 : ¬ s.k = 7 := by omega
       have n8 : ¬ s.k = 8 := by omega
       rcases h1 with h1 | h1
       · have e1 : AQ s [A, B] = AU 2 3 A B := by unfold AQ; rw [if_pos h1]; rfl
         have e2 : AX s row [ra, rb] = B3 false ra rb := by unfold AX; rw [if_neg n7, if_neg n8, if_pos (Or.inl h1), h1]; rfl
         rw [e1, e2]
         exact Pe hgd.1 hgd.2.1
       · have e1 : AQ s [A, B] = AU 4 5 A B := by unfold AQ; rw [if_neg (by omega), if_pos h1]; rfl
         have e2 : AX s row [ra, rb] = B3 true ra rb := by unfold AX; rw [if_neg n7, if_neg n8, if_pos (Or.inr h1), h1]; rfl
         rw [e1, e2]
         exact R1 hgd.1 hgd.2.1
   · exact Oq (fun e => h1 (Or.inl e)) (fun e => h1 (Or.inr e)) hd hgd hnd
 unfold Ba BV
 rw [← hlen]
 refine ⟨All2.app (hg.take _) ⟨hp, trivial⟩, fun r hr => ?_⟩
 rcases List.mem_append.mp hr with hr | hr
 · exact hn r (List.mem_of_mem_take hr)
 · obtain rfl := List.mem_singleton.mp hr
   exact hp.1
theorem He {row : VT} : ∀ (l : List ST) (stk : List (List IT)) (rs : List Rz) (m : Int), l.foldl As (some (stk.length : Int)) = some m → All2 (BE row) stk rs → (∀ r ∈ rs, Cc r) →
   All2 (BE row) (AO l stk) (B4 row l rs)
 | [], stk, rs, m, h, hg, hn => hg
 | s :: l, stk, rs, m, h, hg, hn => by
   obtain ⟨m1, h1, h2⟩ := Dp h
   obtain ⟨hok, t0, tl, e⟩ := Dq h1
   obtain ⟨a1, a2⟩ := Np hok t0 tl hg hn
   have hlen : ((Ba stk s).length : Int) = m1 := by
    unfold Ba
    rw [List.length_append, List.length_take, List.length_singleton, e]
    omega
   exact He l (Ba stk s) (BV row rs s) m (by rw [hlen]; exact h2) a1 a2
theorem EC {l : List ST} (h : Av l = true) : ∃ P, AB l = (P, 0) ∧ BI P ∧ AL P = 0 ∧ 1 ≤ P.length ∧ P.length ≤ 256 ∧ ∀ row, BE row P (Bm row l) := by
 obtain ⟨P, a1, a2, a3, a4, a5⟩ := K3 h
 refine ⟨P, a2, a3, NL a3 a4 a5, a4, a5, fun row => ?_⟩
 have hg := He (row := row) l [] [] 1 (C4 h).1 trivial (fun r hr => absurd hr (List.not_mem_nil))
 unfold Bm
 rw [a1] at hg
 match hs : B4 row l [], hg with
 | [r], hg => exact hg.1
theorem O0 {P : List IT} {row : VT} {r : Rz} (h : BE row P r) : ∃ n, 1 ≤ n ∧ n ≤ P.length ∧ ∀ f, AD P row (f + n) 0 [] = (r, f) := by
 obtain ⟨hn, h1, h2⟩ := h
 obtain ⟨n, l1, l2, e⟩ := h2 P 0 [] ⟨[], [], by rw [FD]; simp, rfl⟩
 refine ⟨n, l1, l2, fun f => ?_⟩
 rw [e]
 obtain ⟨v, y⟩ := r
 by_cases hy : y ≠ 0
 · rw [if_pos hy]
   have : v = Am := hn hy
   rw [this]
 · rw [if_neg hy]
   have hy0 : y = 0 := Decidable.not_not.mp hy
   have hend : ∀ f, AD P row f (0 + P.length) [v] = ((v, 0), f) := fun f => by
    cases f with
    | zero => rw [AD, if_neg (by omega)]; rfl
    | succ f => rw [AD, dif_neg (by omega)]; rfl
   rw [List.nil_append, hend, hy0]
/- Runs and their fuel; what VmAgrees, VmShort say, in plain terms. -/
theorem Hn : ∀ (l : List Int), (∀ z ∈ l, z ≠ 16) → AR l ≠ 16
 | [], _ => by decide
 | z :: r, h => by
   unfold AR
   split
   · exact Hn r (fun y hy => h y (List.mem_cons_of_mem _ hy))
   · exact h z List.mem_cons_self
theorem JO (b : Bool) {e : Int} (h : e ≠ 16) : Br b e ≠ 16 := by unfold Br; split; decide; exact h
theorem Rr (s : ByteArray) : CL s ≠ 16 := by unfold CL; (repeat' split) <;> (decide)
theorem Rd (k : Int) (b : Bool) (n : Int) (s : ByteArray) (ll fl : Nat) (d : Int) : CW k b n s ll fl d ≠ 16 := by
 unfold CW
 apply Hn
 intro z hz
 simp only [List.mem_cons, List.not_mem_nil, or_false] at hz
 rcases hz with rfl | rfl | rfl | rfl | rfl <;> exact JO _ (by decide)
mutual
theorem EB : ∀ (t : VT) (d : Int), Ao t d ≠ 16
 | .mk k b n s l f, d => by
   unfold Ao
   split
   · exact Rd _ _ _ _ _ _ _
   · split
     · exact Ju l _
     · exact Jt _ f _
theorem Ju : ∀ (l : VL) (d : Int), BH l d ≠ 16
 | .nil, d => by unfold BH; decide
 | .cons t r, d => by
   unfold BH
   split
   · exact EB t d
   · exact Ju r d
theorem Jt : ∀ (last : ByteArray) (f : FL) (d : Int), Cu last f d ≠ 16
 | _, .nil, d => by unfold Cu; decide
 | last, .cons s t r, d => by
   unfold Cu
   split
   · apply Hn
     intro z hz
     simp only [List.mem_cons, List.not_mem_nil, or_false] at hz
     rcases hz with rfl | rfl
     · exact Rr _
     · exact JO _ (by decide)
   · split
     · exact EB t d
     · exact Jt s r d
end
theorem Kr (us : List VT) : AV (us.map fun v => ((v, 0) : Rz)) = .ok us := by
 induction us with
 | nil => rfl
 | cons v r ih =>
   rw [List.map_cons]
   unfold AV
   rw [if_neg (by simp), ih]
theorem K9 {r : Rz} (h : r.2 ≠ 16) : (A4 r).2 ≠ 16 := by unfold A4; (repeat' split) <;> (first | exact h | (dsimp only; decide))
theorem Pf (s : ST) (row : VT) (us : List VT) : (BZ s row us).2 ≠ 16 := by
 have hc : ∀ v : VT, (C3 v).2 ≠ 16 := fun v => by
   unfold C3
   split
   · dsimp only; decide
   · exact EB v 0
 have hm : ∀ nm, (Cb nm (us.map fun v => ((v, 0) : Rz))).2 ≠ 16 := fun nm => by
   unfold Cb
   rw [Kr]
   exact hc _
 have hg : ∀ i, ((us.map fun v => ((v, 0) : Rz)).getD i (Am, 0)).2 ≠ 16 := fun i => by
   rw [List.getD_eq_getElem?_getD, List.getElem?_map]
   cases us[i]? with
   | none => show (0 : Int) ≠ 16; decide
   | some v => show (0 : Int) ≠ 16; decide
 have hk : ∀ k a b, (BF k a b).2 ≠ 16 := fun k a b => by
   unfold BF
   split
   · split
     · dsimp only; decide
     · dsimp only; decide
   · dsimp only; decide
 have hh : ∀ k a b, (DT k a b).2 ≠ 16 := fun k a b => by unfold DT; (repeat' split) <;> ((dsimp only; decide))
 unfold BZ AX
 split
 · exact hm _
 split
 · exact hm _
 split
 · unfold B3
   repeat' split
   all_goals first | exact K9 (hg 0) | exact K9 (hg 1) | (dsimp only; decide)
 split
 · unfold F0; repeat' split
   all_goals (dsimp only; decide)
 · unfold Dm
   rw [Kr]
   dsimp only
   repeat' split
   all_goals first | exact hk _ _ _ | exact hh _ _ _ | (dsimp only; decide)
theorem SN (row : VT) (x : IT) (vs : List VT) (next : Int) : (opR row x vs next).1 ≠ 16 := by
 have hf : ∀ v, Bf v ≠ 16 := fun v => by rcases D9 v with h | h <;> rw [h] <;> decide
 unfold opR
 split
 · exact Pf _ _ _
 split
 · exact hf _
 split
 · exact hf _
 split
 · exact hf _
 · dsimp only
   rcases D9 (vs.getD (vs.length - 2) Am) with h | h <;> rcases D9 (Bz vs) with h' | h' <;> rw [h, h'] <;> decide
theorem BQ {p : List IT} {row : VT} {i : Nat} (hi : ¬ i < p.length) (vs : List VT) : ∀ f : Nat, AD p row f i vs = ((Bz vs, 0), f)
 | 0 => by rw [AD, if_neg hi]
 | f + 1 => by rw [AD, dif_neg hi]
theorem Ch {p : List IT} {row : VT} {i : Nat} (hi : i < p.length) (f : Nat) (vs : List VT) : AD p row (f + 1) i vs = if (opR row p[i] vs ((i : Int) + 1)).1 ≠ 0 then ((Am, (opR row p[i] vs ((i : Int) + 1)).1), f) else AD p row f (opR row p[i] vs ((i : Int) + 1)).2.2.toNat (opR row p[i] vs ((i : Int) + 1)).2.1 :=
 BB (List.getElem?_eq_getElem hi) f vs
theorem GO {p : List IT} {row : VT} {hF : HT} (hH : Ed p hF) : ∀ (f i : Nat) (vs : List VT), At p hF i vs → p.length - i ≤ f → (AD p row f i vs).1.2 ≠ 16
 | 0, i, vs, ha, hf => by rw [BQ (by omega)]; show (0 : Int) ≠ 16; decide
 | f + 1, i, vs, ha, hf => by
   by_cases hi : i < p.length
   · rw [Ch hi]
     obtain ⟨j, ej, lj, hj⟩ := Me hH ha hi row (fun s hs => (Bn s hs).1)
     split
     · exact SN _ _ _ _
     · rw [ej]
       exact GO hH f j _ hj (by omega)
   · rw [BQ hi]; show (0 : Int) ≠ 16; decide
theorem IV {p : List IT} {row : VT} : ∀ (f i : Nat) (vs : List VT), (AD p row f i vs).2 ≤ f
 | 0, i, vs => by rw [AD]; split <;> exact Nat.le_refl _
 | f + 1, i, vs => by
   by_cases hi : i < p.length
   · rw [Ch hi]
     split
     · exact Nat.le_succ _
     · exact Nat.le_succ_of_le (IV f _ _)
   · rw [BQ hi]; exact Nat.le_refl _
theorem Rb {p : List IT} {row : VT} (h : 1 ≤ p.length) (f : Nat) : (AD p row (f + 1) 0 []).2 ≤ f := by
 rw [Ch h]
 split
 · exact Nat.le_refl _
 · exact IV f _ _
theorem J0 {p : List IT} {row : VT} (m : Nat) : ∀ (f i : Nat) (vs : List VT), (AD p row f i vs).1.2 ≠ 16 → AD p row (f + m) i vs = ((AD p row f i vs).1, (AD p row f i vs).2 + m)
 | 0, i, vs, h => by
   by_cases hi : i < p.length
   · rw [AD, if_pos hi] at h; exact absurd rfl h
   · rw [BQ hi, BQ hi]
 | f + 1, i, vs, h => by
   by_cases hi : i < p.length
   · rw [Ch hi] at h ⊢
     rw [show f + 1 + m = f + m + 1 by omega, Ch hi]
     by_cases he : (opR row p[i] vs ((i : Int) + 1)).1 ≠ 0
     · rw [if_pos he, if_pos he]
     · rw [if_neg he] at h
       rw [if_neg he, if_neg he]
       exact J0 m f _ _ h
   · rw [BQ hi, BQ hi]
theorem J1 {p : List IT} {row : VT} : ∀ (f i : Nat) (vs : List VT), (AD p row f i vs).1.2 ≠ 16 → AD p row (f - (AD p row f i vs).2) i vs = ((AD p row f i vs).1, 0) ∧ ∀ g, g < f - (AD p row f i vs).2 → AD p row g i vs = ((Am, 16), 0)
 | 0, i, vs, h => by
   by_cases hi : i < p.length
   · rw [AD, if_pos hi] at h; exact absurd rfl h
   · rw [BQ hi, BQ hi]; exact ⟨rfl, fun g hg => absurd hg (Nat.not_lt_zero _)⟩
 | f + 1, i, vs, h => by
   by_cases hi : i < p.length
   · rw [Ch hi] at h ⊢
     by_cases he : (opR row p[i] vs ((i : Int) + 1)).1 ≠ 0
     · rw [if_pos he]
       dsimp only
       rw [show f + 1 - f = 0 + 1 by omega, Ch hi, if_pos he]
       refine ⟨rfl, fun g hg => ?_⟩
       rw [show g = 0 by omega, AD, if_pos hi]
     · rw [if_neg he] at h ⊢
       obtain ⟨a, b⟩ := J1 f _ _ h
       have hl := IV (p := p) (row := row) f (opR row p[i] vs ((i : Int) + 1)).2.2.toNat (opR row p[i] vs ((i : Int) + 1)).2.1
       generalize hr : AD p row f (opR row p[i] vs ((i : Int) + 1)).2.2.toNat (opR row p[i] vs ((i : Int) + 1)).2.1 = R at *
       refine ⟨?_, fun g hg => ?_⟩
       · rw [show f + 1 - R.2 = f - R.2 + 1 by omega, Ch hi, if_neg he, a]
       · match g, hg with
         | 0, _ => rw [AD, if_pos hi]
         | g + 1, hg => rw [Ch hi, if_neg he]; exact b g (by omega)
   · have e := BQ (row := row) hi vs (f + 1)
     rw [e]
     dsimp only
     rw [Nat.sub_self]
     exact ⟨BQ hi vs 0, fun g hg => absurd hg (Nat.not_lt_zero _)⟩
theorem D0 {p : List IT} {row : VT} {fuel : Int} (hp : AL p = 0) (hc : Ao row 0 = 0) (h0 : 0 ≤ fuel) (h1 : fuel ≤ 65536) : BC p row fuel = AD p row fuel.toNat 0 [] := by
 unfold BC
 rw [if_neg (fun h => h hp), if_neg (fun h => h hc), if_neg (by omega)]
theorem Ow {p : List IT} {row : VT} {fuel : Int} (hp : AL p ≠ 0) : BC p row fuel = ((Am, AL p), 0) := by unfold BC; rw [if_pos hp]
theorem H7 {p : List IT} {row : VT} {fuel : Int} (hp : AL p = 0) (hc : Ao row 0 ≠ 0) : BC p row fuel = ((Am, Ao row 0), 0) := by unfold BC; rw [if_neg (fun h => h hp), if_pos hc]
theorem Hp {p : List IT} {row : VT} (hp : AL p = 0) (hc : Ao row 0 = 0) : ∃ (r : Rz) (left : Nat), r.2 ≠ 16 ∧ left < p.length ∧ p.length ≤ 256 ∧ BC p row p.length = (r, left) ∧
   (∀ more : Int, 1 ≤ more → more ≤ 1000 → BC p row (p.length + more) = (r, left + more.toNat)) ∧ BC p row ((p.length : Int) - left) = (r, 0) ∧ BC p row ((p.length : Int) - left - 1) = ((Am, 16), 0) := by
 obtain ⟨h1, h2, hF, hH⟩ := Ip hp
 have e0 := GO (row := row) hH p.length 0 [] (Kw hH) (by omega)
 have el : (AD p row p.length 0 []).2 < p.length := by
   have := Rb (row := row) h1 (p.length - 1)
   rw [show p.length - 1 + 1 = p.length by omega] at this
   omega
 obtain ⟨t1, t2⟩ := J1 (p := p) (row := row) p.length 0 [] e0
 have tm := fun m => J0 (p := p) (row := row) m p.length 0 [] e0
 generalize hr : AD p row p.length 0 [] = R at *
 refine ⟨R.1, R.2, e0, el, h2, ?_, fun more m1 m2 => ?_, ?_, ?_⟩
 · rw [D0 hp hc (by omega) (by omega), Int.toNat_natCast, hr]
 · rw [D0 hp hc (by omega) (by omega), show ((p.length : Int) + more).toNat = p.length + more.toNat by omega, tm]
 · rw [D0 hp hc (by omega) (by omega), show ((p.length : Int) - R.2).toNat = p.length - R.2 by omega, t1]
 · rw [D0 hp hc (by omega) (by omega)]
   exact t2 _ (by omega)
theorem Jj {l : List ST} (h : Av l = true) : ∃ P, AB l = (P, 0) ∧ BI P ∧ AL P = 0 ∧ 1 ≤ P.length ∧ P.length ≤ 256 ∧ ∀ row, ∃ left : Nat, left ≤ P.length ∧ BC P row P.length = (Bj l row, left) ∧ (Bj l row).2 ≠ 16 ∧ (Bj l row).2 = (if Ao row 0 = 0 then (Bj l row).2 else Ao row 0) := by
 obtain ⟨P, a1, a2, a3, a4, a5, a6⟩ := EC h
 refine ⟨P, a1, a2, a3, a4, a5, fun row => ?_⟩
 unfold Bj
 rw [if_pos h]
 by_cases hc : Ao row 0 = 0
 · obtain ⟨n, l1, l2, e⟩ := O0 (a6 row)
   rw [if_pos hc]
   have e1 := e (P.length - n)
   rw [show P.length - n + n = P.length by omega] at e1
   obtain ⟨r, left, b1, _, _, b2, _⟩ := Hp a3 hc
   rw [D0 a3 hc (by omega) (by omega), Int.toNat_natCast, e1] at b2
   refine ⟨P.length - n, by omega, ?_, ?_, ?_⟩
   · rw [D0 a3 hc (by omega) (by omega), Int.toNat_natCast, e1]
   · rw [(Prod.mk.inj b2).1]; exact b1
   · rw [if_pos hc]
 · rw [if_neg hc]
   exact ⟨0, Nat.zero_le _, H7 a3 hc, EB _ _, by rw [if_neg hc]⟩
theorem L8 {l : List ST} {P : List IT} {row : VT} {left : Nat} (h : Av l = true) (hr : BC P row P.length = (Bj l row, left)) : (Dk P row P.length).1 = (Fg l row).1 ∧ (Dk P row P.length).2.2 = (Fg l row).2 := by
 have hl : l.length ≠ 0 := by have := JE (C4 h).1; omega
 have hn : (Bj l row).2 ≠ 0 → (Bj l row).1.bool = false := by
   obtain ⟨P', _, _, _, _, _, a6⟩ := EC h
   unfold Bj
   rw [if_pos h]
   split
   · intro hq
     rw [(a6 row).1 hq]
     rfl
   · intro _; rfl
 unfold Dk Fg
 rw [hr, if_neg hl]
 dsimp only
 by_cases hk : (Bj l row).2 = 0 ∧ 1 < (Bj l row).1.kind
 · rw [if_pos hk, if_pos hk]; exact ⟨rfl, rfl⟩
 · rw [if_neg hk, if_neg hk]
   refine ⟨?_, rfl⟩
   dsimp only
   by_cases h0 : (Bj l row).2 = 0
   · rw [decide_eq_true h0, Bool.true_and]
   · rw [decide_eq_false h0, Bool.false_and, hn h0]
theorem Gy : ∀ (l : List ST) (m : Int) (s0 stk : List (List IT)), l.foldl As (some (s0.length : Int)) = some m → AO l (stk ++ s0) = stk ++ AO l s0
 | [], m, s0, stk, h => rfl
 | s :: l, m, s0, stk, h => by
   obtain ⟨m1, h1, h2⟩ := Dp h
   obtain ⟨hok, t0, tl, e⟩ := Dq h1
   have hst : Ba (stk ++ s0) s = stk ++ Ba s0 s := by
    unfold Ba
    rw [List.length_append, show stk.length + s0.length - s.takes.toNat = stk.length + (s0.length - s.takes.toNat) by omega, List.take_append, List.drop_append]
    rw [List.take_of_length_le (by omega), List.drop_of_length_le (by omega)]
    simp [Nat.add_sub_cancel_left]
   have hlen : ((Ba s0 s).length : Int) = m1 := by
    unfold Ba
    rw [List.length_append, List.length_take, List.length_singleton, e]
    omega
   show AO l (Ba (stk ++ s0) s) = stk ++ AO l (Ba s0 s)
   rw [hst]
   exact Gy l m (Ba s0 s) stk (by rw [hlen]; exact h2)
abbrev CY (l : List ST) : List ST := [oP 3] ++ l ++ [oP 21]
theorem Ix {l : List ST} (h : Av l = true) (hl : l.length + 2 ≤ 128) : Av (CY l) = true := by
 obtain ⟨hr, _⟩ := C4 h
 apply H6
 · exact F8 (I0 (a := [oP 3]) (by kernel_rfl) hr) (Od (by decide))
 · simp only [List.length_append, List.length_cons, List.length_nil]; omega
theorem Oj {l : List ST} {P : List IT} (h : Av l = true) (hP : AB l = (P, 0)) (hl : l.length + 2 ≤ 128) : AB (CY l) = (AU 2 3 [⟨1, oP 3, 0⟩] P, 0) := by
 obtain ⟨P', b1, b2, _⟩ := K3 h
 rw [hP] at b2
 cases b2
 have hr := (C4 h).1
 unfold AB
 rw [if_pos (Ix h hl)]
 have e1 : AO (CY l) [] = AO [oP 21] (AO l (Ba [] (oP 3))) := by unfold AO CY; rw [List.foldl_append, List.foldl_append]; rfl
 have e2 : Ba [] (oP 3) = [[⟨1, oP 3, 0⟩]] := rfl
 rw [e1, e2]
 have e3 := Gy l 1 [] [[⟨1, oP 3, 0⟩]] hr
 rw [List.append_nil] at e3
 rw [e3, b1]
 rfl
theorem O7 {P : List IT} {row : VT} (f : Nat) : AD (AU 2 3 [⟨1, oP 3, 0⟩] P) row (f + 2) 0 [] = ((AK false, 0), f) := by
 have hc : Code (AU 2 3 [⟨1, oP 3, 0⟩] P) 0 (Gn 2 3 [⟨1, oP 3, 0⟩] P 0) := by
   rw [← DD, FD]
   exact ⟨[], [], by simp, rfl⟩
 have hl := Dw 2 3 [⟨1, oP 3, 0⟩] P
 unfold Gn at hc
 obtain ⟨c1, c2⟩ := hc.app
 obtain ⟨x1, _⟩ := c1.cons
 obtain ⟨x2, _⟩ := c2.cons
 have o1 : opR row (Az 0 ⟨1, oP 3, 0⟩) [] (((0 : Nat) : Int) + 1) = (0, [AK false], 1) := rfl
 rw [show f + 2 = f + 1 + 1 from rfl, BB x1, o1, if_neg (by simp)]
 have o2 : opR row ⟨2, zS, ((0 : Nat) : Int) + ([⟨1, oP 3, 0⟩] : List IT).length + P.length + 2⟩ [AK false] (((0 + ([⟨1, oP 3, 0⟩] : List IT).length : Nat) : Int) + 1) = (0, [AK false], ((0 : Nat) : Int) + ([⟨1, oP 3, 0⟩] : List IT).length + P.length + 2) := rfl
 have s2 := BB (row := row) x2 f [AK false]
 rw [List.length_map, o2, if_neg (by simp)] at s2
 show AD _ row (f + 1) (0 + ([⟨1, oP 3, 0⟩] : List IT).length) [AK false] = _
 rw [s2]
 rw [BQ]
 · rfl
 · rw [hl]
   simp only [List.length_cons, List.length_nil]
   omega
theorem O6 {l : List ST} {P : List IT} (h : Av l = true) (hP : AB l = (P, 0)) (hl : l.length + 2 ≤ 128) (hp : P.length ≤ 256) : ∃ P2, AB (CY l) = (P2, 0) ∧ P2.length ≤ 256 ∧ ∀ row, BC P2 row 100 = if Ao row 0 = 0 then ((AK false, 0), 98) else ((Am, Ao row 0), 0) := by
 obtain ⟨P2, a1, _, a3, a4, a5, _⟩ := EC (Ix h hl)
 refine ⟨P2, a1, a5, fun row => ?_⟩
 rw [Oj h hP hl] at a1
 cases a1
 by_cases hc : Ao row 0 = 0
 · rw [if_pos hc, D0 a3 hc (by decide) (by decide)]
   exact O7 98
 · rw [if_neg hc, H7 a3 hc]
theorem RC (b : Nat) (x : IT) : (Az b x).s = x.s := by unfold Az; split <;> rfl
theorem Hs {Q : ST → Prop} : ∀ (parts : List (List IT)) (out : List IT), (∀ P ∈ parts, ∀ x ∈ P, Q x.s) → (∀ x ∈ out, Q x.s) → ∀ x ∈ Bk parts out, Q x.s
 | [], out, _, ho => ho
 | p :: r, out, hp, ho => Hs r _ (fun P hP => hp P (List.mem_cons_of_mem _ hP)) (fun x hx => by
  rcases List.mem_append.mp hx with h | h
  · exact ho x h
  · obtain ⟨y, hy, rfl⟩ := List.mem_map.mp h
    rw [RC]
    exact hp p List.mem_cons_self y hy)
theorem J6 {Q : ST → Prop} (hz : Q zS) (j k : Int) {A B : List IT} (hA : ∀ x ∈ A, Q x.s) (hB : ∀ x ∈ B, Q x.s) : ∀ x ∈ AU j k A B, Q x.s := by
 unfold AU
 refine Hs _ _ (fun P hP x hx => ?_) (fun x hx => absurd hx List.not_mem_nil)
 simp only [List.mem_cons, List.not_mem_nil, or_false] at hP
 rcases hP with rfl | rfl | rfl | rfl
 · exact hA x hx
 · obtain rfl := List.mem_singleton.mp hx; exact hz
 · exact hB x hx
 · obtain rfl := List.mem_singleton.mp hx; exact hz
theorem PT {Q : ST → Prop} (hz : Q zS) {s : ST} (hs : Q s) {parts : List (List IT)} (hp : ∀ P ∈ parts, ∀ x ∈ P, Q x.s) : ∀ x ∈ AQ s parts, Q x.s := by
 have hg : ∀ i, ∀ x ∈ parts.getD i [], Q x.s := fun i x hx => by
   rw [List.getD_eq_getElem?_getD] at hx
   cases hi : parts[i]? with
   | none => rw [hi] at hx; exact absurd hx List.not_mem_nil
   | some P => rw [hi] at hx; exact hp P (List.mem_of_getElem? hi) x hx
 unfold AQ
 split
 · exact J6 hz _ _ (hg 0) (hg 1)
 split
 · exact J6 hz _ _ (hg 0) (hg 1)
 · intro x hx
   rcases List.mem_append.mp hx with h | h
   · exact Hs parts [] hp (fun x hx => absurd hx List.not_mem_nil) x h
   · obtain rfl := List.mem_singleton.mp h; exact hs
theorem I4 {Q : ST → Prop} (hz : Q zS) : ∀ (l : List ST) (stk : List (List IT)), (∀ s ∈ l, Q s) → (∀ P ∈ stk, ∀ x ∈ P, Q x.s) → ∀ P ∈ AO l stk, ∀ x ∈ P, Q x.s
 | [], stk, _, hk => hk
 | s :: l, stk, hl, hk => I4 hz l (Ba stk s) (fun t ht => hl t (List.mem_cons_of_mem _ ht)) (fun P hP => by
  unfold Ba at hP
  rcases List.mem_append.mp hP with h | h
  · exact hk P (List.mem_of_mem_take h)
  · obtain rfl := List.mem_singleton.mp h
    exact PT hz (hl s List.mem_cons_self) (fun P hP => hk P (List.mem_of_mem_drop hP)))
theorem SX : Be zS := ⟨by unfold I64; decide, by decide, by decide⟩
theorem Fq {l : List ST} (h : ∀ s ∈ l, Be s) : ∀ x ∈ (AB l).1, Be x.s := by
 intro x hx
 unfold AB at hx
 split at hx
 · have hs := I4 (Q := Be) SX l [] h (fun P hP => absurd hP List.not_mem_nil)
   have hg : x ∈ (AO l []).getD 0 [] := hx
   rw [List.getD_eq_getElem?_getD] at hg
   cases hi : (AO l [])[0]? with
   | none => rw [hi] at hg; exact absurd hg List.not_mem_nil
   | some P => rw [hi] at hg; exact hs P (List.mem_of_getElem? hi) x hg
 · exact absurd hx List.not_mem_nil
end Go.Proofs.YtbemgcjckchdjaaGreatDoor
