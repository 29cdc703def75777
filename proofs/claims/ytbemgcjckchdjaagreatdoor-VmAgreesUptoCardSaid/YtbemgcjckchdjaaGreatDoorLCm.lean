import Derived.Test.YtbemgcjckchdjaaGreatDoorLCl
import Derived.Test.YtbemgcjckchdjaaGreatDoorLUa
/- What code.Compile makes is a program that code.Check lets through (plain). -/
namespace Go.Proofs.YtbemgcjckchdjaaGreatDoor
open Go.RowKit
set_option linter.unusedSimpArgs false
set_option linter.unusedVariables false
theorem KM {s : ST} (h : s.ok = true) (h1 : s.k ≠ 21) (h2 : s.k ≠ 22) : s.k < 21 := by
 unfold ST.ok AC at h
 simp only [Bool.and_eq_true] at h
 by_cases h21 : s.k < 21
 · exact h21
 have hk := h.1
 rw [if_neg (by omega), if_neg (by omega), if_neg (by omega), if_neg (by omega), if_neg (by omega), if_neg (by omega)] at hk
 have := of_decide_eq_true hk
 omega
theorem R9 {s : ST} (h : s.k = 21 ∨ s.k = 22) : s.takes = 2 := by
 unfold ST.takes AJ
 rw [if_neg (by omega), if_neg (by omega), if_neg (by omega)]
theorem Qb (a b : Nat) (x : IT) : Az a (Az b x) = Az (b + a) x := by
 unfold Az
 by_cases h : 0 < x.tgt
 · rw [if_pos h, if_pos h]
   dsimp only
   rw [if_pos (by omega)]
   congr 1
   omega
 · rw [if_neg h, if_neg h, if_neg h]
theorem PT (a b : Nat) (P : List IT) : (P.map (Az b)).map (Az a) = P.map (Az (b + a)) := by
 rw [List.map_map]
 apply List.map_congr_left
 intro x _
 exact Qb a b x
def Hq : List (List IT) → Nat → List IT
 | [], _ => []
 | p :: r, b => p.map (Az b) ++ Hq r (b + p.length)
def H9 : List (List IT) → Nat
 | [] => 0
 | p :: r => p.length + H9 r
theorem Hv : ∀ (parts : List (List IT)) (b : Nat), (Hq parts b).length = H9 parts
 | [], _ => rfl
 | p :: r, b => by
   unfold Hq H9
   rw [List.length_append, List.length_map, Hv r]
theorem H8 (c : Nat) : ∀ (parts : List (List IT)) (b : Nat), (Hq parts b).map (Az c) = Hq parts (b + c)
 | [], _ => rfl
 | p :: r, b => by
   unfold Hq
   rw [List.map_append, PT, H8 c r, show b + p.length + c = b + c + p.length by omega]
theorem Hn : ∀ (parts : List (List IT)) (out : List IT), Bk parts out = out ++ Hq parts out.length
 | [], out => by unfold Bk Hq; simp
 | p :: r, out => by
   unfold Bk Hq
   rw [Hn r, List.length_append, List.length_map, List.append_assoc]
theorem Hp (parts : List (List IT)) : Bk parts [] = Hq parts 0 := by rw [Hn]; rfl
theorem NL {s : ST} (h1 : s.k ≠ 21) (h2 : s.k ≠ 22) (parts : List (List IT)) (b : Nat) : (AQ s parts).map (Az b) = Hq parts b ++ [⟨1, s, 0⟩] := by
 unfold AQ
 rw [if_neg h1, if_neg h2, Hp, List.map_append, H8, Nat.zero_add]
 rfl
def Ix (j k : Int) (A B : List IT) (b : Nat) : List IT := A.map (Az b) ++ (⟨j, zS, (b : Int) + A.length + B.length + 2⟩ :: (B.map (Az (b + A.length + 1)) ++ [⟨k, zS, 0⟩]))
theorem Jj (j k : Int) (A B : List IT) (b : Nat) : (AU j k A B).map (Az b) = Ix j k A B b := by
 unfold AU Ix
 rw [Hp, H8, Nat.zero_add]
 unfold Hq Hq Hq Hq Hq
 simp only [List.map_cons, List.map_nil, List.length_cons, List.length_nil, List.append_nil, List.cons_append, List.nil_append]
 congr 2
 · unfold Az
   dsimp only
   rw [if_pos (by omega)]
   congr 1
   omega
theorem IV (j k : Int) (A B : List IT) : (AU j k A B).length = A.length + B.length + 2 := by
 have := congrArg List.length (Jj j k A B 0)
 rw [List.length_map] at this
 rw [this]
 unfold Ix
 simp only [List.length_append, List.length_cons, List.length_map, List.length_nil]
 omega
theorem Me (s : ST) {parts : List (List IT)} (h : s.takes = (parts.length : Int)) : 1 ≤ (AQ s parts).length ∧ (AQ s parts).length ≤ H9 parts + 2 := by
 by_cases h1 : s.k = 21 ∨ s.k = 22
 · rw [R9 h1] at h
   match parts, h with
   | [A, B], _ =>
     have e : ∃ j k, AQ s [A, B] = AU j k A B := by
      rcases h1 with h1 | h1
      · exact ⟨2, 3, by unfold AQ; rw [if_pos h1]; rfl⟩
      · exact ⟨4, 5, by unfold AQ; rw [if_neg (by omega), if_pos h1]; rfl⟩
     obtain ⟨j, k, e⟩ := e
     rw [e, IV]
     unfold H9 H9 H9
     omega
 · have e := congrArg List.length (NL (b := 0) (fun e => h1 (Or.inl e)) (fun e => h1 (Or.inr e)) parts)
   rw [List.length_map, List.length_append, Hv] at e
   rw [e]
   simp
theorem FI {n : Nat} {B : List IT} : ∀ (A : List IT) (i : Nat) (h h1 : HT), goK n A i h = some h1 → goK n (A ++ B) i h = goK n B (i + A.length) h1
 | [], i, h, h1, e => by
   unfold goK at e
   cases e
   rfl
 | x :: r, i, h, h1, e => by
   unfold goK at e
   rw [List.cons_append]
   conv => lhs; unfold goK
   cases hs : AE n x i h with
   | none => rw [hs] at e; cases e
   | some h2 =>
     rw [hs] at e
     dsimp only at e ⊢
     rw [FI r (i + 1) h2 h1 e, List.length_cons, show i + (r.length + 1) = i + 1 + r.length by omega]
theorem Gc {n : Nat} {x : IT} {B : List IT} {i : Nat} {h h1 : HT} (e : AE n x i h = some h1) : goK n (x :: B) i h = goK n B (i + 1) h1 := by
 conv => lhs; unfold goK
 rw [e]
theorem RY (h : HT) (a v : Int) : BR h a v a = some v := by unfold BR; rw [if_pos rfl]
theorem RR (h : HT) {a v x : Int} (hx : x ≠ a) : BR h a v x = h x := by unfold BR; rw [if_neg hx]
theorem DH {h : HT} {a v : Int} (e : h a = none) : (AN h a v).2 = true := by unfold AN; rw [e]
theorem DQ {h : HT} {a v : Int} (e : h a = some v) : (AN h a v).2 = true := by unfold AN; rw [e]; exact decide_eq_true rfl
theorem S7 : ER zS = true := by
 have e : (⟨#[]⟩ : ByteArray).toList = [] := by rw [ByteArray.toList_eq]
 unfold ER zS
 simp [e]
def DB (P : List IT) : Prop := ∀ (n b : Nat) (h : HT) (ht : Int), h b = some ht → 0 ≤ ht → b + P.length ≤ n → (∀ x : Int, (b : Int) < x → x ≤ (b : Int) + P.length → h x = none) →
 ∃ h', goK n (P.map (Az b)) b h = some h' ∧ h' ((b : Int) + P.length) = some (ht + 1) ∧ ∀ x : Int, (x ≤ b ∨ (b : Int) + P.length < x) → h' x = h x
theorem Hs (n : Nat) : ∀ (parts : List (List IT)), (∀ P ∈ parts, DB P ∧ 1 ≤ P.length) → ∀ (b : Nat) (h : HT) (ht : Int), h b = some ht → 0 ≤ ht → b + H9 parts ≤ n → (∀ x : Int, (b : Int) < x → x ≤ (b : Int) + H9 parts → h x = none) →
   ∃ h', goK n (Hq parts b) b h = some h' ∧ h' ((b : Int) + H9 parts) = some (ht + parts.length) ∧ ∀ x : Int, (x ≤ b ∨ (b : Int) + H9 parts < x) → h' x = h x
 | [], _, b, h, ht, e, h0, hn, hx => ⟨h, rfl, by
     show h ((b : Int) + (0 : Nat)) = some (ht + (0 : Nat))
     rw [show (b : Int) + (0 : Nat) = b by omega, e, show ht + ((0 : Nat) : Int) = ht by omega], fun x _ => rfl⟩
 | P :: r, hg, b, h, ht, e, h0, hn, hx => by
   unfold H9 at hn hx
   obtain ⟨hP, hP1⟩ := hg P (List.mem_cons_self)
   obtain ⟨h1, a1, a2, a3⟩ := hP n b h ht e h0 (by omega) (fun x l1 l2 => hx x l1 (by omega))
   obtain ⟨h2, b1, b2, b3⟩ := Hs n r (fun Q hQ => hg Q (List.mem_cons_of_mem _ hQ)) (b + P.length) h1 (ht + 1) (by rw [show ((b + P.length : Nat) : Int) = (b : Int) + P.length by omega]; exact a2) (by omega) (by omega) (fun x l1 l2 => by rw [a3 x (Or.inr (by omega))]; exact hx x (by omega) (by omega))
   refine ⟨h2, ?_, ?_, ?_⟩
   · unfold Hq
     rw [FI _ _ _ _ a1, List.length_map]
     exact b1
   · unfold H9
     rw [show (b : Int) + ((P.length + H9 r : Nat) : Int) = ((b + P.length : Nat) : Int) + H9 r by omega, b2, List.length_cons]
     congr 1
     omega
   · intro x hxx
     unfold H9 at hxx
     rw [b3 x (by omega), a3 x (by omega)]
theorem Rx {s : ST} (hok : s.ok = true) (h1 : s.k ≠ 21) (h2 : s.k ≠ 22) {parts : List (List IT)} (ht : s.takes = (parts.length : Int)) (hg : ∀ P ∈ parts, DB P ∧ 1 ≤ P.length) : DB (AQ s parts) := by
 intro n b h hh e h0 hn hx
 have hl : (AQ s parts).length = H9 parts + 1 := by
   have e := congrArg List.length (NL (b := 0) h1 h2 parts)
   rw [List.length_map, List.length_append, Hv] at e
   exact e
 rw [hl] at hn hx ⊢
 obtain ⟨h', a1, a2, a3⟩ := Hs n parts hg b h hh e h0 (by omega) (fun x l1 l2 => hx x l1 (by omega))
 have k21 := KM hok h1 h2
 have hn1 : h' (((b + H9 parts : Nat) : Int) + 1) = none := by rw [a3 _ (Or.inr (by omega))]; exact hx _ (by omega) (by omega)
 have hs : AE n ⟨1, s, 0⟩ (b + H9 parts) h' = some (BR h' (((b + H9 parts : Nat) : Int) + 1) (hh + 1)) := by
   unfold AE
   rw [show ((b + H9 parts : Nat) : Int) = (b : Int) + H9 parts by omega, a2]
   dsimp only
   rw [if_pos rfl, DH (by rw [← hn1] <;> (congr 1 <;> omega))]
   rw [if_pos (by simp [hok, k21, ht]; omega)]
   rw [show hh + (parts.length : Int) - s.takes + 1 = hh + 1 by omega]
   rfl
 refine ⟨BR h' (((b + H9 parts : Nat) : Int) + 1) (hh + 1), ?_, ?_, ?_⟩
 · rw [NL h1 h2, FI _ _ _ _ a1, Hv, Gc hs]
   rfl
 · rw [show (b : Int) + ((H9 parts + 1 : Nat) : Int) = ((b + H9 parts : Nat) : Int) + 1 by omega, RY]
 · intro x hxx
   rw [RR _ (by omega), a3 x (by omega)]
theorem I4 {j k : Int} (hjk : (j = 2 ∧ k = 3) ∨ (j = 4 ∧ k = 5)) {A B : List IT} (hA : DB A) (hB : DB B) : DB (AU j k A B) := by
 intro n b h ht e h0 hn hx
 rw [IV] at hn hx ⊢
 rw [Jj]
 unfold Ix
 obtain ⟨h1, a1, a2, a3⟩ := hA n b h ht e h0 (by omega) (fun x l1 l2 => hx x l1 (by omega))
 obtain ⟨v, hv⟩ : ∃ v : Int, v = if j = 2 then ht + 1 - 1 else ht + 1 := ⟨_, rfl⟩
 have hv0 : 0 ≤ v := by rcases hjk with ⟨q, _⟩ | ⟨q, _⟩ <;> simp [q] at hv <;> omega
 have eT : h1 ((b : Int) + A.length + B.length + 2) = none := by rw [a3 _ (Or.inr (by omega))]; exact hx _ (by omega) (by omega)
 have eN : (BR h1 ((b : Int) + A.length + B.length + 2) (ht + 1)) (((b + A.length : Nat) : Int) + 1) = none := by
   rw [RR _ (by omega), a3 _ (Or.inr (by omega))]; exact hx _ (by omega) (by omega)
 have hs : AE n ⟨j, zS, (b : Int) + A.length + B.length + 2⟩ (b + A.length) h1 = some (BR (BR h1 ((b : Int) + A.length + B.length + 2) (ht + 1)) (((b + A.length : Nat) : Int) + 1) v) := by
   unfold AE
   rw [show h1 (((b + A.length : Nat) : Int)) = some (ht + 1) by rw [← a2] <;> (congr 1 <;> omega)]
   dsimp only
   rw [if_neg (by omega), if_pos (by omega), ← hv]
   rw [if_pos]
   · rfl
   · rw [DH eT, S7, DH (h := (AN h1 ((b : Int) + A.length + B.length + 2) (ht + 1)).1) eN]
     simp
     omega
 obtain ⟨h2, hh2⟩ : ∃ h2, h2 = BR (BR h1 ((b : Int) + A.length + B.length + 2) (ht + 1)) (((b + A.length : Nat) : Int) + 1) v := ⟨_, rfl⟩
 rw [← hh2] at hs
 have f1 : h2 ((b + A.length + 1 : Nat) : Int) = some v := by rw [hh2, show ((b + A.length + 1 : Nat) : Int) = ((b + A.length : Nat) : Int) + 1 by omega, RY]
 have f2 : h2 ((b : Int) + A.length + B.length + 2) = some (ht + 1) := by rw [hh2, RR _ (by omega), RY]
 have f3 : ∀ x : Int, x ≠ (b : Int) + A.length + B.length + 2 → x ≠ ((b + A.length : Nat) : Int) + 1 → h2 x = h1 x := fun x n1 n2 => by rw [hh2, RR _ n2, RR _ n1]
 obtain ⟨h3, b1, b2, b3⟩ := hB n (b + A.length + 1) h2 v f1 hv0 (by omega) (fun x l1 l2 => by rw [f3 x (by omega) (by omega), a3 _ (Or.inr (by omega))]; exact hx x (by omega) (by omega))
 have g1 : h3 ((b : Int) + A.length + B.length + 2) = some (ht + 1) := by rw [b3 _ (Or.inr (by omega)), f2]
 have hs2 : AE n ⟨k, zS, 0⟩ (b + A.length + 1 + B.length) h3 = some (BR h3 ((b : Int) + A.length + B.length + 2) (ht + 1)) := by
   unfold AE
   rw [show h3 (((b + A.length + 1 + B.length : Nat) : Int)) = some (v + 1) by rw [← b2] <;> (congr 1 <;> omega)]
   dsimp only
   rw [show ((b + A.length + 1 + B.length : Nat) : Int) + 1 = (b : Int) + A.length + B.length + 2 by omega]
   rcases hjk with ⟨q1, q2⟩ | ⟨q1, q2⟩
   · rw [if_pos q1] at hv
     rw [if_neg (by omega), if_neg (by omega), if_pos q2, show v + 1 = ht + 1 by omega, DQ g1, S7, if_pos (by simp; omega)]
     rfl
   · rw [if_neg (by omega)] at hv
     rw [if_neg (by omega), if_neg (by omega), if_neg (by omega), if_pos q2, show v + 1 - 1 = ht + 1 by omega, DQ g1, S7, if_pos (by simp; omega)]
     rfl
 refine ⟨BR h3 ((b : Int) + A.length + B.length + 2) (ht + 1), ?_, ?_, ?_⟩
 · rw [FI _ _ _ _ a1, List.length_map, Gc hs, FI _ _ _ _ b1, List.length_map, Gc hs2]
   rfl
 · rw [show (b : Int) + ((A.length + B.length + 2 : Nat) : Int) = (b : Int) + A.length + B.length + 2 by omega, RY]
 · intro x hxx
   rw [RR _ (by omega), b3 x (by omega), f3 x (by omega) (by omega), a3 x (by omega)]
theorem Mc {s : ST} (hok : s.ok = true) {parts : List (List IT)} (ht : s.takes = (parts.length : Int)) (hg : ∀ P ∈ parts, DB P ∧ 1 ≤ P.length) : DB (AQ s parts) := by
 by_cases h1 : s.k = 21
 · rw [R9 (Or.inl h1)] at ht
   match parts, ht, hg with
   | [A, B], _, hg =>
     have e : AQ s [A, B] = AU 2 3 A B := by unfold AQ; rw [if_pos h1]; rfl
     rw [e]
     exact I4 (Or.inl ⟨rfl, rfl⟩) (hg A (by simp)).1 (hg B (by simp)).1
 by_cases h2 : s.k = 22
 · rw [R9 (Or.inr h2)] at ht
   match parts, ht, hg with
   | [A, B], _, hg =>
     have e : AQ s [A, B] = AU 4 5 A B := by unfold AQ; rw [if_neg h1, if_pos h2]; rfl
     rw [e]
     exact I4 (Or.inr ⟨rfl, rfl⟩) (hg A (by simp)).1 (hg B (by simp)).1
 exact Rx hok h1 h2 ht hg
theorem Ip : ∀ (a b : List (List IT)), H9 (a ++ b) = H9 a + H9 b
 | [], b => by simp [H9]
 | p :: r, b => by
   show p.length + H9 (r ++ b) = p.length + H9 r + H9 b
   rw [Ip r b]
   omega
theorem Rr {stk : List (List IT)} {s : ST} (hok : s.ok = true) (h0 : 0 ≤ s.takes) (hl : s.takes ≤ (stk.length : Int)) (hg : ∀ P ∈ stk, DB P ∧ 1 ≤ P.length) :
   (∀ P ∈ Ba stk s, DB P ∧ 1 ≤ P.length) ∧ ((Ba stk s).length : Int) = stk.length - (s.takes - 1) ∧ H9 (Ba stk s) ≤ H9 stk + 2 := by
 have hd : (stk.drop (stk.length - s.takes.toNat)).length = s.takes.toNat := by rw [List.length_drop]; omega
 have ht : s.takes = ((stk.drop (stk.length - s.takes.toNat)).length : Int) := by rw [hd]; omega
 have hgd : ∀ P ∈ stk.drop (stk.length - s.takes.toNat), DB P ∧ 1 ≤ P.length := fun P hP => hg P (List.mem_of_mem_drop hP)
 have hpl := Me s ht
 refine ⟨fun P hP => ?_, ?_, ?_⟩
 · unfold Ba at hP
   rcases List.mem_append.mp hP with hP | hP
   · exact hg P (List.mem_of_mem_take hP)
   · obtain rfl := List.mem_singleton.mp hP
     exact ⟨Mc hok ht hgd, hpl.1⟩
 · unfold Ba
   rw [List.length_append, List.length_take, List.length_singleton]
   omega
 · unfold Ba
   rw [Ip]
   have e := Ip (stk.take (stk.length - s.takes.toNat)) (stk.drop (stk.length - s.takes.toNat))
   rw [List.take_append_drop] at e
   have : H9 [AQ s (stk.drop (stk.length - s.takes.toNat))] = (AQ s (stk.drop (stk.length - s.takes.toNat))).length := by simp [H9]
   omega
theorem QF : ∀ (l : List ST) (stk : List (List IT)) (m : Int), l.foldl As (some (stk.length : Int)) = some m → (∀ P ∈ stk, DB P ∧ 1 ≤ P.length) →
   (∀ P ∈ AO l stk, DB P ∧ 1 ≤ P.length) ∧ ((AO l stk).length : Int) = m ∧ H9 (AO l stk) ≤ H9 stk + 2 * l.length
 | [], stk, m, h, hg => ⟨hg, Option.some.inj h, Nat.le_refl _⟩
 | s :: l, stk, m, h, hg => by
   obtain ⟨m1, h1, h2⟩ := Dp h
   obtain ⟨hok, t0, tl, e⟩ := Dq h1
   obtain ⟨a1, a2, a3⟩ := Rr hok t0 tl hg
   obtain ⟨b1, b2, b3⟩ := QF l (Ba stk s) m (by rw [a2, ← e]; exact h2) a1
   refine ⟨b1, b2, ?_⟩
   have : AO (s :: l) stk = AO l (Ba stk s) := rfl
   rw [this, List.length_cons]
   omega
theorem DV {l : List ST} (h : Av l = true) : ∃ P, AO l [] = [P] ∧ AB l = (P, 0) ∧ DB P ∧ 1 ≤ P.length ∧ P.length ≤ 256 := by
 obtain ⟨hr, hlen⟩ := C4 h
 obtain ⟨a1, a2, a3⟩ := QF l [] 1 hr (fun P hP => absurd hP (List.not_mem_nil))
 have : ∃ P, AO l [] = [P] := by
   match hs : AO l [], a2 with
   | [P], _ => exact ⟨P, rfl⟩
 obtain ⟨P, hP⟩ := this
 rw [hP] at a1 a3
 have hp := a1 P (List.mem_singleton.mpr rfl)
 refine ⟨P, hP, ?_, hp.1, hp.2, ?_⟩
 · unfold AB
   rw [if_pos h, hP]
   rfl
 · simp only [H9] at a3
   omega
theorem Qd (P : List IT) : P.map (Az 0) = P := by
 conv => rhs; rw [← List.map_id P]
 apply List.map_congr_left
 intro x _
 unfold Az
 split
 · show (⟨x.op, x.s, x.tgt + ((0 : Nat) : Int)⟩ : IT) = x
   rw [show x.tgt + ((0 : Nat) : Int) = x.tgt by omega]
 · rfl
theorem Gn {P : List IT} (h : DB P) (h1 : 1 ≤ P.length) (h2 : P.length ≤ 256) : AL P = 0 := by
 obtain ⟨h', a1, a2, _⟩ := h P.length 0 H0 0 (by unfold H0; exact RY _ _ _) (Int.le_refl _) (by omega) (fun x l1 l2 => by unfold H0; rw [RR _ (by omega)])
 rw [Qd] at a1
 unfold AL
 rw [if_pos ⟨h1, h2⟩, a1]
 dsimp only
 rw [show ((P.length : Nat) : Int) = ((0 : Nat) : Int) + P.length by omega, a2]
 rfl
/- What a compiled program comes to (plain). -/
theorem All2.app {α β : Type} {R : α → β → Prop} : ∀ {l : List α} {m : List β} {l' : List α} {m' : List β}, All2 R l m → All2 R l' m' → All2 R (l ++ l') (m ++ m')
 | [], [], _, _, _, k => k
 | _ :: _, _ :: _, _, _, h, k => ⟨h.1, All2.app h.2 k⟩
 | [], _ :: _, _, _, h, _ => h.elim
 | _ :: _, [], _, _, h, _ => h.elim
theorem Code.app {Q : List IT} {b : Nat} {L M : List IT} (h : Code Q b (L ++ M)) : Code Q b L ∧ Code Q (b + L.length) M := by
 obtain ⟨pre, post, e, hb⟩ := h
 refine ⟨⟨pre, M ++ post, by rw [e]; simp, hb⟩, ⟨pre ++ L, post, by rw [e]; simp, by rw [List.length_append, hb]⟩⟩
def BE (r : Rz) : Prop := r.2 ≠ 0 → r.1 = Am
def BI (row : VT) (P : List IT) (r : Rz) : Prop := BE r ∧ 1 ≤ P.length ∧ ∀ (Q : List IT) (b : Nat) (vs : List VT), Code Q b (P.map (Az b)) →
 ∃ n, 1 ≤ n ∧ n ≤ P.length ∧ ∀ f, AD Q row (f + n) b vs = if r.2 ≠ 0 then ((Am, r.2), f) else AD Q row f (b + P.length) (vs ++ [r.1])
theorem RA (vs : List VT) (v : VT) : Bz (vs ++ [v]) = v := by
 unfold Bz
 rw [List.length_append, List.length_singleton, Nat.add_sub_cancel, List.getD_eq_getElem?_getD, List.getElem?_append_right (Nat.le_refl _), Nat.sub_self]
 rfl
theorem H7 (row : VT) (Q : List IT) : ∀ (parts : List (List IT)) (rs : List Rz), All2 (BI row) parts rs → ∀ (b : Nat) (vs : List VT), Code Q b (Hq parts b) →
   ∃ n, n ≤ H9 parts ∧ (parts.length ≠ 0 → 1 ≤ n) ∧ ∀ f, AD Q row (f + n) b vs = match AV rs with | .error e => ((Am, e), f) | .ok us => AD Q row f (b + H9 parts) (vs ++ us)
 | [], [], _, b, vs, _ => ⟨0, Nat.le_refl _, fun h => absurd rfl h, fun f => by
     show AD Q row f b vs = AD Q row f (b + 0) (vs ++ [])
     rw [List.append_nil]; rfl⟩
 | P :: r, x :: rs, h, b, vs, hc => by
   unfold Hq at hc
   obtain ⟨c1, c2⟩ := hc.app
   rw [List.length_map] at c2
   obtain ⟨⟨hni, hP1, hP⟩, hr⟩ := h
   obtain ⟨n1, l1, l2, e1⟩ := hP Q b vs c1
   unfold H9
   by_cases hx : x.2 ≠ 0
   · refine ⟨n1, by omega, fun _ => l1, fun f => ?_⟩
     rw [e1, if_pos hx]
     unfold AV
     rw [if_pos hx]
   · obtain ⟨n2, l3, _, e2⟩ := H7 row Q r rs hr (b + P.length) (vs ++ [x.1]) c2
     refine ⟨n1 + n2, by omega, fun _ => by omega, fun f => ?_⟩
     rw [show f + (n1 + n2) = f + n2 + n1 by omega, e1, if_neg hx, e2]
     conv => rhs; unfold AV
     rw [if_neg hx]
     cases AV rs with
     | error e => rfl
     | ok us =>
       show AD Q row f (b + P.length + H9 r) (vs ++ [x.1] ++ us) = AD Q row f (b + (P.length + H9 r)) (vs ++ (x.1 :: us))
       rw [List.append_assoc, Nat.add_assoc]
       rfl
 | [], _ :: _, h, _, _, _ => h.elim
 | _ :: _, [], h, _, _, _ => h.elim
theorem Ch : ∀ {rs : List Rz} {us : List VT}, AV rs = .ok us → rs = us.map fun v => (v, 0)
 | [], us, h => by unfold AV at h; cases h; rfl
 | r :: l, us, h => by
   unfold AV at h
   by_cases hr : r.2 ≠ 0
   · rw [if_pos hr] at h; cases h
   · rw [if_neg hr] at h
     cases ha : AV l with
     | error e => rw [ha] at h; cases h
     | ok vs =>
       rw [ha] at h
       cases h
       rw [List.map_cons, ← Ch ha]
       congr 1
       obtain ⟨r1, r2⟩ := r
       have : r2 = 0 := Decidable.not_not.mp hr
       rw [this]
theorem BY : ∀ {rs : List Rz} {e : Int}, AV rs = .error e → e ≠ 0 ∧ rs.isEmpty = false
 | [], e, h => by unfold AV at h; cases h
 | r :: l, e, h => by
   unfold AV at h
   by_cases hr : r.2 ≠ 0
   · rw [if_pos hr] at h; cases h; exact ⟨hr, rfl⟩
   · rw [if_neg hr] at h
     cases ha : AV l with
     | error e' => rw [ha] at h; cases h; exact ⟨(BY ha).1, rfl⟩
     | ok vs => rw [ha] at h; cases h
theorem KP {s : ST} (row : VT) (h1 : s.k ≠ 21) (h2 : s.k ≠ 22) {rs : List Rz} {e : Int} (h : AV rs = .error e) : AX s row rs = (Am, e) := by
 have hm : ∀ nm, Cb nm rs = (Am, e) := fun nm => by unfold Cb; rw [h]
 unfold AX
 rw [hm, hm, if_neg (fun q : s.k = 21 ∨ s.k = 22 => q.elim h1 h2), (BY h).2]
 unfold Dm
 rw [h]
 simp
theorem K3 (v : VT) : BE (v, 0) := fun h => absurd rfl h
theorem Kw (e : Int) : BE (Am, e) := fun _ => rfl
theorem J0 (v : VT) : BE (C3 v) := by unfold C3; split; exact K3 _; exact Kw _
theorem Kr (nm : Option (List ByteArray)) (l : List Rz) : BE (Cb nm l) := by
 unfold Cb
 cases AV l with
 | error e => exact Kw _
 | ok vs => exact J0 _
theorem JK (s : ST) (row : VT) : BE (F0 s row) := by unfold F0; (repeat' split) <;> (exact K3 _)
theorem J1 (k : Int) (a b : VT) : BE (BF k a b) := by
 unfold BF
 split
 · split
   · exact K3 _
   · exact Kw _
 · exact Kw _
theorem J9 (k : Int) (a b : VT) : BE (DT k a b) := by unfold DT; (repeat' split) <;> (first | exact K3 _ | exact Kw _)
theorem KL (k : Int) (l : List Rz) : BE (Dm k l) := by
 unfold Dm
 cases AV l with
 | error e => exact Kw _
 | ok vs => dsimp only; (repeat' split) <;> (first | exact K3 _ | exact Kw _ | exact J1 _ _ _ | exact J9 _ _ _)
theorem J6 {r : Rz} (h : BE r) : BE (A4 r) := by unfold A4; (repeat' split) <;> (first | exact Kw _ | exact h)
theorem JO (o : Bool) {a b : Rz} (ha : BE a) (hb : BE b) : BE (B3 o a b) := by
 unfold B3; (repeat' split) <;> (first | exact J6 ha | exact J6 hb | exact K3 _)
theorem K9 (s : ST) (row : VT) {l : List Rz} (h : ∀ r ∈ l, BE r) : BE (AX s row l) := by
 have hg : ∀ i, BE (l.getD i (Am, 0)) := fun i => by
  rw [List.getD_eq_getElem?_getD]
  cases hi : l[i]? with
  | none => exact K3 _
  | some r => exact h r (List.mem_of_getElem? hi)
 unfold AX
 repeat' split
 all_goals first | exact Kr _ _ | exact JO _ (hg 0) (hg 1) | exact JK _ _ | exact KL _ _
theorem Np {row : VT} {s : ST} (h1 : s.k ≠ 21) (h2 : s.k ≠ 22) {parts : List (List IT)} {rs : List Rz} (ht : s.takes = (parts.length : Int)) (hg : All2 (BI row) parts rs) (hn : ∀ r ∈ rs, BE r) : BI row (AQ s parts) (AX s row rs) := by
 have hl : (AQ s parts).length = H9 parts + 1 := by
   have e := congrArg List.length (NL (b := 0) h1 h2 parts)
   rw [List.length_map, List.length_append, Hv] at e
   exact e
 refine ⟨K9 s row hn, by omega, fun Q b vs hc => ?_⟩
 rw [NL h1 h2] at hc
 obtain ⟨c1, c2⟩ := hc.app
 rw [Hv] at c2
 obtain ⟨hx, _⟩ := c2.cons
 obtain ⟨n, ln, ln1, e⟩ := H7 row Q parts rs hg b vs c1
 have hlen := hg.len
 cases ha : AV rs with
 | error e1 =>
   obtain ⟨he, hne⟩ := BY ha
   have hp : parts.length ≠ 0 := by
    rw [hlen]
    intro h0
    rw [List.length_eq_zero_iff.mp h0] at hne
    cases hne
   refine ⟨n, ln1 hp, by omega, fun f => ?_⟩
   have e3 := e f
   rw [ha] at e3
   rw [e3, KP row h1 h2 ha, if_pos he]
 | ok us =>
   have hr := Ch ha
   refine ⟨n + 1, by omega, by omega, fun f => ?_⟩
   have e2 := e (f + 1)
   rw [ha] at e2
   dsimp only at e2
   have hul : us.length = parts.length := by rw [hlen, hr, List.length_map]
   have hd : (vs ++ us).drop ((vs ++ us).length - s.takes.toNat) = us := by
    rw [List.length_append, show vs.length + us.length - s.takes.toNat = vs.length by omega, List.drop_left]
   have hk : (vs ++ us).take ((vs ++ us).length - s.takes.toNat) = vs := by
    rw [List.length_append, show vs.length + us.length - s.takes.toNat = vs.length by omega, List.take_left]
   have hap : BZ s row us = AX s row rs := by unfold BZ; rw [← hr]
   have ho : opR row ⟨1, s, 0⟩ (vs ++ us) (((b + H9 parts : Nat) : Int) + 1) = ((AX s row rs).2, vs ++ [(AX s row rs).1], ((b + H9 parts : Nat) : Int) + 1) := by
    unfold opR
    rw [if_pos rfl]
    dsimp only
    rw [hd, hk, hap]
   rw [show f + (n + 1) = f + 1 + n by omega, e2, Ob hx, ho, hl]
   dsimp only
   rw [show (((b + H9 parts : Nat) : Int) + 1).toNat = b + (H9 parts + 1) by omega]
theorem EB {r : Rz} (h : r.2 ≠ 0) : A4 r = (Am, r.2) := by unfold A4; rw [if_pos h]
theorem EG {r : Rz} (h : ¬ r.2 ≠ 0) (hf : Bf r.1 ≠ 0) : A4 r = (Am, 5) ∧ Bf r.1 = 5 := by
 unfold Bf at hf ⊢
 by_cases hk : 1 < r.1.kind
 · unfold A4; rw [if_neg h, if_pos hk, if_pos hk]; exact ⟨rfl, rfl⟩
 · rw [if_neg hk] at hf; exact absurd rfl hf
theorem EC {r : Rz} (h : ¬ r.2 ≠ 0) (hf : ¬ Bf r.1 ≠ 0) : A4 r = r := by
 unfold Bf at hf
 by_cases hk : 1 < r.1.kind
 · rw [if_pos hk] at hf; exact absurd (by decide) hf
 · unfold A4; rw [if_neg h, if_neg hk]
theorem Ju {o : Bool} {a b : Rz} (h : (A4 a).2 ≠ 0) : B3 o a b = A4 a := by unfold B3; rw [if_pos]; simp [h]
theorem Jt {o : Bool} {a b : Rz} (h : (A4 a).1.bool = o) : B3 o a b = A4 a := by unfold B3; rw [if_pos]; simp [h]
theorem Cw {a b : Rz} (h : ¬ (A4 a).2 ≠ 0) (hb : (A4 a).1.bool = true) : B3 false a b = A4 b := by
 unfold B3
 rw [if_neg, if_neg]
 · simp
 · simp [hb, Decidable.not_not.mp h]
theorem KR {a b : Rz} (h : ¬ (A4 a).2 ≠ 0) (hb : (A4 a).1.bool = false) : B3 true a b = if (A4 b).2 = 0 ∧ (A4 b).1.bool = false ∧ (A4 a).1.kind = 0 then ((A4 a).1, 0) else A4 b := by
 unfold B3
 rw [if_neg]
 · congr 1
   simp [Bool.and_assoc]
 · simp [hb, Decidable.not_not.mp h]
theorem Cy {row : VT} {A B : List IT} {ra rb : Rz} (hA : BI row A ra) (hB : BI row B rb) : BI row (AU 2 3 A B) (B3 false ra rb) := by
 obtain ⟨na, la, hA⟩ := hA
 obtain ⟨nb, lb, hB⟩ := hB
 refine ⟨JO _ na nb, by rw [IV]; omega, fun Q b vs hc => ?_⟩
 rw [Jj] at hc
 unfold Ix at hc
 obtain ⟨c1, c2⟩ := hc.app
 rw [List.length_map] at c2
 obtain ⟨x1, c3⟩ := c2.cons
 obtain ⟨c4, c5⟩ := c3.app
 rw [List.length_map] at c5
 obtain ⟨x2, _⟩ := c5.cons
 obtain ⟨m, m1, m2, e1⟩ := hA Q b vs c1
 obtain ⟨m', m3, m4, e2⟩ := hB Q (b + A.length + 1) vs c4
 rw [IV]
 by_cases ha : ra.2 ≠ 0
 · refine ⟨m, m1, by omega, fun f => ?_⟩
   have hf := EB ha
   rw [e1, if_pos ha, Ju (by rw [hf]; exact ha), hf, if_pos ha]
 have o1 : opR row ⟨2, zS, (b : Int) + A.length + B.length + 2⟩ (vs ++ [ra.1]) (((b + A.length : Nat) : Int) + 1) = (Bf ra.1, if ra.1.bool then vs else vs ++ [ra.1], if ra.1.bool then ((b + A.length : Nat) : Int) + 1 else (b : Int) + A.length + B.length + 2) := by
   unfold opR
   rw [if_neg (by dsimp only; decide), if_pos rfl, RA]
   dsimp only
   rw [List.length_append, List.length_singleton, Nat.add_sub_cancel, List.take_left]
 by_cases hfa : Bf ra.1 ≠ 0
 · refine ⟨m + 1, by omega, by omega, fun f => ?_⟩
   obtain ⟨q1, q2⟩ := EG ha hfa
   rw [show f + (m + 1) = f + 1 + m by omega, e1, if_neg ha, Ob x1, o1, if_pos hfa, Ju (by rw [q1]; decide), q1, q2]
   rfl
 have hra := EC ha hfa
 cases hbo : ra.1.bool with
 | false =>
   refine ⟨m + 1, by omega, by omega, fun f => ?_⟩
   rw [show f + (m + 1) = f + 1 + m by omega, e1, if_neg ha, Ob x1, o1, if_neg hfa, Jt (by rw [hra]; exact hbo), hra, if_neg ha, hbo]
   simp only [Bool.false_eq_true, if_false]
   rw [show ((b : Int) + A.length + B.length + 2).toNat = b + (A.length + B.length + 2) by omega]
 | true =>
   rw [Cw (by rw [hra]; exact ha) (by rw [hra]; exact hbo)]
   have s1 : ∀ f, AD Q row (f + m' + 1 + m) b vs = AD Q row (f + m') (b + A.length + 1) vs := fun f => by
     rw [e1, if_neg ha, Ob x1, o1, if_neg hfa, hbo]
     simp only [if_true]
     rw [show (((b + A.length : Nat) : Int) + 1).toNat = b + A.length + 1 by omega]
   by_cases hb : rb.2 ≠ 0
   · refine ⟨m' + 1 + m, by omega, by omega, fun f => ?_⟩
     rw [show f + (m' + 1 + m) = f + m' + 1 + m by omega, s1, e2, if_pos hb, EB hb, if_pos hb]
   have o2 : opR row ⟨3, zS, 0⟩ (vs ++ [rb.1]) (((b + A.length + 1 + B.length : Nat) : Int) + 1) = (Bf rb.1, vs ++ [rb.1], ((b + A.length + 1 + B.length : Nat) : Int) + 1) := by
     unfold opR
     rw [if_neg (by dsimp only; decide), if_neg (by dsimp only; decide), if_neg (by dsimp only; decide), if_pos rfl, RA]
   refine ⟨1 + m' + 1 + m, by omega, by omega, fun f => ?_⟩
   rw [show f + (1 + m' + 1 + m) = f + 1 + m' + 1 + m by omega, s1, e2, if_neg hb, Ob x2, o2]
   dsimp only
   by_cases hfb : Bf rb.1 ≠ 0
   · obtain ⟨q1, q2⟩ := EG hb hfb
     rw [if_pos hfb, q1, q2]
     rfl
   · rw [if_neg hfb, EC hb hfb, if_neg hb, show (((b + A.length + 1 + B.length : Nat) : Int) + 1).toNat = b + (A.length + B.length + 2) by omega]
theorem KW {row : VT} {A B : List IT} {ra rb : Rz} (hA : BI row A ra) (hB : BI row B rb) : BI row (AU 4 5 A B) (B3 true ra rb) := by
 obtain ⟨na, la, hA⟩ := hA
 obtain ⟨nb, lb, hB⟩ := hB
 refine ⟨JO _ na nb, by rw [IV]; omega, fun Q b vs hc => ?_⟩
 rw [Jj] at hc
 unfold Ix at hc
 obtain ⟨c1, c2⟩ := hc.app
 rw [List.length_map] at c2
 obtain ⟨x1, c3⟩ := c2.cons
 obtain ⟨c4, c5⟩ := c3.app
 rw [List.length_map] at c5
 obtain ⟨x2, _⟩ := c5.cons
 obtain ⟨m, m1, m2, e1⟩ := hA Q b vs c1
 obtain ⟨m', m3, m4, e2⟩ := hB Q (b + A.length + 1) (vs ++ [ra.1]) c4
 rw [IV]
 by_cases ha : ra.2 ≠ 0
 · refine ⟨m, m1, by omega, fun f => ?_⟩
   have hf := EB ha
   rw [e1, if_pos ha, Ju (by rw [hf]; exact ha), hf, if_pos ha]
 have o1 : opR row ⟨4, zS, (b : Int) + A.length + B.length + 2⟩ (vs ++ [ra.1]) (((b + A.length : Nat) : Int) + 1) = (Bf ra.1, vs ++ [ra.1], if ra.1.bool then (b : Int) + A.length + B.length + 2 else ((b + A.length : Nat) : Int) + 1) := by
   unfold opR
   rw [if_neg (by dsimp only; decide), if_neg (by dsimp only; decide), if_pos rfl, RA]
 by_cases hfa : Bf ra.1 ≠ 0
 · refine ⟨m + 1, by omega, by omega, fun f => ?_⟩
   obtain ⟨q1, q2⟩ := EG ha hfa
   rw [show f + (m + 1) = f + 1 + m by omega, e1, if_neg ha, Ob x1, o1, if_pos hfa, Ju (by rw [q1]; decide), q1, q2]
   rfl
 have hra := EC ha hfa
 cases hbo : ra.1.bool with
 | true =>
   refine ⟨m + 1, by omega, by omega, fun f => ?_⟩
   rw [show f + (m + 1) = f + 1 + m by omega, e1, if_neg ha, Ob x1, o1, if_neg hfa, Jt (by rw [hra]; exact hbo), hra, if_neg ha, hbo]
   simp only [if_true]
   rw [show ((b : Int) + A.length + B.length + 2).toNat = b + (A.length + B.length + 2) by omega]
 | false =>
   rw [KR (by rw [hra]; exact ha) (by rw [hra]; exact hbo), hra]
   have s1 : ∀ f, AD Q row (f + m' + 1 + m) b vs = AD Q row (f + m') (b + A.length + 1) (vs ++ [ra.1]) := fun f => by
     rw [e1, if_neg ha, Ob x1, o1, if_neg hfa, hbo]
     simp only [Bool.false_eq_true, if_false]
     rw [show (((b + A.length : Nat) : Int) + 1).toNat = b + A.length + 1 by omega]
   by_cases hb : rb.2 ≠ 0
   · refine ⟨m' + 1 + m, by omega, by omega, fun f => ?_⟩
     have hr : (if (A4 rb).2 = 0 ∧ (A4 rb).1.bool = false ∧ ra.1.kind = 0 then (ra.1, 0) else A4 rb) = (Am, rb.2) := by
       rw [EB hb]
       exact if_neg (fun q => hb q.1)
     rw [hr, show f + (m' + 1 + m) = f + m' + 1 + m by omega, s1, e2, if_pos hb, if_pos hb]
   have hfa0 : Bf ra.1 = 0 := Decidable.not_not.mp hfa
   have o2 : opR row ⟨5, zS, 0⟩ (vs ++ [ra.1] ++ [rb.1]) (((b + A.length + 1 + B.length : Nat) : Int) + 1) = (Bf rb.1, vs ++ [if !rb.1.bool && ra.1.kind == 0 then ra.1 else rb.1], ((b + A.length + 1 + B.length : Nat) : Int) + 1) := by
     have g1 : (vs ++ [ra.1] ++ [rb.1]).getD ((vs ++ [ra.1] ++ [rb.1]).length - 2) Am = ra.1 := by
       rw [List.append_assoc, List.length_append, show vs.length + ([ra.1] ++ [rb.1]).length - 2 = vs.length from Nat.add_sub_cancel _ 2, List.getD_eq_getElem?_getD, List.getElem?_append_right (Nat.le_refl _), Nat.sub_self]
       rfl
     have g2 : (vs ++ [ra.1] ++ [rb.1]).take ((vs ++ [ra.1] ++ [rb.1]).length - 2) = vs := by
       rw [List.append_assoc, List.length_append, show vs.length + ([ra.1] ++ [rb.1]).length - 2 = vs.length from Nat.add_sub_cancel _ 2, List.take_left]
     unfold opR
     rw [if_neg (by dsimp only; decide), if_neg (by dsimp only; decide), if_neg (by dsimp only; decide), if_neg (by dsimp only; decide), RA, g1, g2, hfa0]
     congr 1
     rcases Ek rb.1 with q | q <;> rw [q] <;> decide
   refine ⟨1 + m' + 1 + m, by omega, by omega, fun f => ?_⟩
   rw [show f + (1 + m' + 1 + m) = f + 1 + m' + 1 + m by omega, s1, e2, if_neg hb, Ob x2, o2]
   dsimp only
   by_cases hfb : Bf rb.1 ≠ 0
   · obtain ⟨q1, q2⟩ := EG hb hfb
     have hr : (if (A4 rb).2 = 0 ∧ (A4 rb).1.bool = false ∧ ra.1.kind = 0 then (ra.1, 0) else A4 rb) = (Am, 5) := by
       rw [q1]
       exact if_neg (fun q => absurd (show (5 : Int) = 0 from q.1) (by decide))
     rw [hr, if_pos hfb, q2]
     rfl
   · have hb0 : rb.2 = 0 := Decidable.not_not.mp hb
     rw [if_neg hfb, show (((b + A.length + 1 + B.length : Nat) : Int) + 1).toNat = b + (A.length + B.length + 2) by omega]
     by_cases hq : rb.1.bool = false ∧ ra.1.kind = 0
     · have hr : (if (A4 rb).2 = 0 ∧ (A4 rb).1.bool = false ∧ ra.1.kind = 0 then (ra.1, 0) else A4 rb) = (ra.1, 0) := by
        rw [EC hb hfb]
        exact if_pos ⟨hb0, hq⟩
       rw [hr, if_neg (fun h => absurd rfl h), if_pos (by simp [hq.1, hq.2])]
     · have hr : (if (A4 rb).2 = 0 ∧ (A4 rb).1.bool = false ∧ ra.1.kind = 0 then (ra.1, 0) else A4 rb) = rb := by
        rw [EC hb hfb]
        exact if_neg (fun h => hq h.2)
       rw [hr, if_neg hb, if_neg (by simpa using hq)]
theorem RC {α : Type} {l : List α} (h : l.length = 2) : ∃ a b, l = [a, b] := by
 match l, h with
 | [a, b], _ => exact ⟨a, b, rfl⟩
theorem Rv {row : VT} {stk : List (List IT)} {rs : List Rz} {s : ST} (hok : s.ok = true) (h0 : 0 ≤ s.takes) (hl : s.takes ≤ (stk.length : Int)) (hg : All2 (BI row) stk rs) (hn : ∀ r ∈ rs, BE r) :
   All2 (BI row) (Ba stk s) (BV row rs s) ∧ ∀ r ∈ BV row rs s, BE r := by
 have hlen := hg.len
 have hd : s.takes = ((stk.drop (stk.length - s.takes.toNat)).length : Int) := by rw [List.length_drop]; omega
 have hgd := hg.drop (stk.length - s.takes.toNat)
 have hnd : ∀ r ∈ rs.drop (stk.length - s.takes.toNat), BE r := fun r hr => hn r (List.mem_of_mem_drop hr)
 have hp : BI row (AQ s (stk.drop (stk.length - s.takes.toNat))) (AX s row (rs.drop (stk.length - s.takes.toNat))) := by
   by_cases h1 : s.k = 21 ∨ s.k = 22
   · have ht2 := R9 h1
     generalize stk.drop (stk.length - s.takes.toNat) = P at *
     generalize rs.drop (stk.length - s.takes.toNat) = R at *
     obtain ⟨A, B, rfl⟩ := RC (l := P) (by omega)
     obtain ⟨ra, rb, rfl⟩ := RC (l := R) (by rw [← hgd.len]; rfl)
     have hgd : BI row A ra ∧ BI row B rb ∧ True := hgd
     · clear hd
       have n7 : ¬ s.k = 7 := by omega
       have n8 : ¬ s.k = 8 := by omega
       rcases h1 with h1 | h1
       · have e1 : AQ s [A, B] = AU 2 3 A B := by unfold AQ; rw [if_pos h1]; rfl
         have e2 : AX s row [ra, rb] = B3 false ra rb := by unfold AX; rw [if_neg n7, if_neg n8, if_pos (Or.inl h1), h1]; rfl
         rw [e1, e2]
         exact Cy hgd.1 hgd.2.1
       · have e1 : AQ s [A, B] = AU 4 5 A B := by unfold AQ; rw [if_neg (by omega), if_pos h1]; rfl
         have e2 : AX s row [ra, rb] = B3 true ra rb := by unfold AX; rw [if_neg n7, if_neg n8, if_pos (Or.inr h1), h1]; rfl
         rw [e1, e2]
         exact KW hgd.1 hgd.2.1
   · exact Np (fun e => h1 (Or.inl e)) (fun e => h1 (Or.inr e)) hd hgd hnd
 unfold Ba BV
 rw [← hlen]
 refine ⟨All2.app (hg.take _) ⟨hp, trivial⟩, fun r hr => ?_⟩
 rcases List.mem_append.mp hr with hr | hr
 · exact hn r (List.mem_of_mem_take hr)
 · obtain rfl := List.mem_singleton.mp hr
   exact hp.1
theorem Rd {row : VT} : ∀ (l : List ST) (stk : List (List IT)) (rs : List Rz) (m : Int), l.foldl As (some (stk.length : Int)) = some m → All2 (BI row) stk rs → (∀ r ∈ rs, BE r) →
   All2 (BI row) (AO l stk) (B4 row l rs)
 | [], stk, rs, m, h, hg, hn => hg
 | s :: l, stk, rs, m, h, hg, hn => by
   obtain ⟨m1, h1, h2⟩ := Dp h
   obtain ⟨hok, t0, tl, e⟩ := Dq h1
   obtain ⟨a1, a2⟩ := Rv hok t0 tl hg hn
   have hlen : ((Ba stk s).length : Int) = m1 := by
    unfold Ba
    rw [List.length_append, List.length_take, List.length_singleton, e]
    omega
   exact Rd l (Ba stk s) (BV row rs s) m (by rw [hlen]; exact h2) a1 a2
theorem Ed {l : List ST} (h : Av l = true) : ∃ P, AB l = (P, 0) ∧ DB P ∧ AL P = 0 ∧ 1 ≤ P.length ∧ P.length ≤ 256 ∧ ∀ row, BI row P (Bm row l) := by
 obtain ⟨P, a1, a2, a3, a4, a5⟩ := DV h
 refine ⟨P, a2, a3, Gn a3 a4 a5, a4, a5, fun row => ?_⟩
 have hg := Rd (row := row) l [] [] 1 (C4 h).1 trivial (fun r hr => absurd hr (List.not_mem_nil))
 unfold Bm
 rw [a1] at hg
 match hs : B4 row l [], hg with
 | [r], hg => exact hg.1
theorem P1 {P : List IT} {row : VT} {r : Rz} (h : BI row P r) : ∃ n, 1 ≤ n ∧ n ≤ P.length ∧ ∀ f, AD P row (f + n) 0 [] = (r, f) := by
 obtain ⟨hn, h1, h2⟩ := h
 obtain ⟨n, l1, l2, e⟩ := h2 P 0 [] ⟨[], [], by rw [Qd]; simp, rfl⟩
 refine ⟨n, l1, l2, fun f => ?_⟩
 rw [e]
 obtain ⟨v, y⟩ := r
 by_cases hy : y ≠ 0
 · rw [if_pos hy]
   have : v = Am := hn hy
   rw [this]
 · rw [if_neg hy]
   have hy0 : y = 0 := Decidable.not_not.mp hy
   have hend : ∀ f, AD P row f (0 + P.length) [v] = ((v, 0), f) := fun f => by
    cases f with
    | zero => rw [AD, if_neg (by omega)]; rfl
    | succ f => rw [AD, dif_neg (by omega)]; rfl
   rw [List.nil_append, hend, hy0]
/- Runs and their fuel; what VmAgrees, VmShort say, in plain terms. -/
theorem BQ {l : List ST} (h : Av l = true) : ∃ P, AB l = (P, 0) ∧ DB P ∧ AL P = 0 ∧ 1 ≤ P.length ∧ P.length ≤ 256 ∧ ∀ row, ∃ left : Nat, left ≤ P.length ∧ BC P row P.length = (Bj l row, left) ∧ (Bj l row).2 ≠ 16 ∧ (Bj l row).2 = (if Ao row 0 = 0 then (Bj l row).2 else Ao row 0) := by
 obtain ⟨P, a1, a2, a3, a4, a5, a6⟩ := Ed h
 refine ⟨P, a1, a2, a3, a4, a5, fun row => ?_⟩
 unfold Bj
 rw [if_pos h]
 by_cases hc : Ao row 0 = 0
 · obtain ⟨n, l1, l2, e⟩ := P1 (a6 row)
   rw [if_pos hc]
   have e1 := e (P.length - n)
   rw [show P.length - n + n = P.length by omega] at e1
   obtain ⟨r, left, b1, _, _, b2, _⟩ := Ff a3 hc
   rw [Ok a3 hc (by omega) (by omega), Int.toNat_natCast, e1] at b2
   refine ⟨P.length - n, by omega, ?_, ?_, ?_⟩
   · rw [Ok a3 hc (by omega) (by omega), Int.toNat_natCast, e1]
   · rw [(Prod.mk.inj b2).1]; exact b1
   · rw [if_pos hc]
 · rw [if_neg hc]
   exact ⟨0, Nat.zero_le _, Oq a3 hc, D9 _ _, by rw [if_neg hc]⟩
theorem G1 {l : List ST} {P : List IT} {row : VT} {left : Nat} (h : Av l = true) (hr : BC P row P.length = (Bj l row, left)) : (Dk P row P.length).1 = (Fg l row).1 ∧ (Dk P row P.length).2.2 = (Fg l row).2 := by
 have hl : l.length ≠ 0 := by have := JE (C4 h).1; omega
 have hn : (Bj l row).2 ≠ 0 → (Bj l row).1.bool = false := by
   obtain ⟨P', _, _, _, _, _, a6⟩ := Ed h
   unfold Bj
   rw [if_pos h]
   split
   · intro hq
     rw [(a6 row).1 hq]
     rfl
   · intro _; rfl
 unfold Dk Fg
 rw [hr, if_neg hl]
 dsimp only
 by_cases hk : (Bj l row).2 = 0 ∧ 1 < (Bj l row).1.kind
 · rw [if_pos hk, if_pos hk]; exact ⟨rfl, rfl⟩
 · rw [if_neg hk, if_neg hk]
   refine ⟨?_, rfl⟩
   dsimp only
   by_cases h0 : (Bj l row).2 = 0
   · rw [decide_eq_true h0, Bool.true_and]
   · rw [decide_eq_false h0, Bool.false_and, hn h0]
theorem Rb : ∀ (l : List ST) (m : Int) (s0 stk : List (List IT)), l.foldl As (some (s0.length : Int)) = some m → AO l (stk ++ s0) = stk ++ AO l s0
 | [], m, s0, stk, h => rfl
 | s :: l, m, s0, stk, h => by
   obtain ⟨m1, h1, h2⟩ := Dp h
   obtain ⟨hok, t0, tl, e⟩ := Dq h1
   have hst : Ba (stk ++ s0) s = stk ++ Ba s0 s := by
    unfold Ba
    rw [List.length_append, show stk.length + s0.length - s.takes.toNat = stk.length + (s0.length - s.takes.toNat) by omega, List.take_append, List.drop_append]
    rw [List.take_of_length_le (by omega), List.drop_of_length_le (by omega)]
    simp [Nat.add_sub_cancel_left]
   have hlen : ((Ba s0 s).length : Int) = m1 := by
    unfold Ba
    rw [List.length_append, List.length_take, List.length_singleton, e]
    omega
   show AO l (Ba (stk ++ s0) s) = stk ++ AO l (Ba s0 s)
   rw [hst]
   exact Rb l m (Ba s0 s) stk (by rw [hlen]; exact h2)
abbrev KX (l : List ST) : List ST := [oP 3] ++ l ++ [oP 21]
theorem LA {l : List ST} (h : Av l = true) (hl : l.length + 2 ≤ 128) : Av (KX l) = true := by
 obtain ⟨hr, _⟩ := C4 h
 apply H6
 · exact F8 (I0 (a := [oP 3]) (by kernel_rfl) hr) (Od (by decide))
 · simp only [List.length_append, List.length_cons, List.length_nil]; omega
theorem L8 {l : List ST} {P : List IT} (h : Av l = true) (hP : AB l = (P, 0)) (hl : l.length + 2 ≤ 128) : AB (KX l) = (AU 2 3 [⟨1, oP 3, 0⟩] P, 0) := by
 obtain ⟨P', b1, b2, _⟩ := DV h
 rw [hP] at b2
 cases b2
 have hr := (C4 h).1
 unfold AB
 rw [if_pos (LA h hl)]
 have e1 : AO (KX l) [] = AO [oP 21] (AO l (Ba [] (oP 3))) := by unfold AO KX; rw [List.foldl_append, List.foldl_append]; rfl
 have e2 : Ba [] (oP 3) = [[⟨1, oP 3, 0⟩]] := rfl
 rw [e1, e2]
 have e3 := Rb l 1 [] [[⟨1, oP 3, 0⟩]] hr
 rw [List.append_nil] at e3
 rw [e3, b1]
 rfl
theorem Qo {P : List IT} {row : VT} (f : Nat) : AD (AU 2 3 [⟨1, oP 3, 0⟩] P) row (f + 2) 0 [] = ((AK false, 0), f) := by
 have hc : Code (AU 2 3 [⟨1, oP 3, 0⟩] P) 0 (Ix 2 3 [⟨1, oP 3, 0⟩] P 0) := by
   rw [← Jj, Qd]
   exact ⟨[], [], by simp, rfl⟩
 have hl := IV 2 3 [⟨1, oP 3, 0⟩] P
 unfold Ix at hc
 obtain ⟨c1, c2⟩ := hc.app
 obtain ⟨x1, _⟩ := c1.cons
 obtain ⟨x2, _⟩ := c2.cons
 have o1 : opR row (Az 0 ⟨1, oP 3, 0⟩) [] (((0 : Nat) : Int) + 1) = (0, [AK false], 1) := rfl
 rw [show f + 2 = f + 1 + 1 from rfl, Ob x1, o1, if_neg (by simp)]
 have o2 : opR row ⟨2, zS, ((0 : Nat) : Int) + ([⟨1, oP 3, 0⟩] : List IT).length + P.length + 2⟩ [AK false] (((0 + ([⟨1, oP 3, 0⟩] : List IT).length : Nat) : Int) + 1) = (0, [AK false], ((0 : Nat) : Int) + ([⟨1, oP 3, 0⟩] : List IT).length + P.length + 2) := rfl
 have s2 := Ob (row := row) x2 f [AK false]
 rw [List.length_map, o2, if_neg (by simp)] at s2
 show AD _ row (f + 1) (0 + ([⟨1, oP 3, 0⟩] : List IT).length) [AK false] = _
 rw [s2]
 rw [Oa]
 · rfl
 · rw [hl]
   simp only [List.length_cons, List.length_nil]
   omega
theorem Qk {l : List ST} {P : List IT} (h : Av l = true) (hP : AB l = (P, 0)) (hl : l.length + 2 ≤ 128) (hp : P.length ≤ 256) : ∃ P2, AB (KX l) = (P2, 0) ∧ P2.length ≤ 256 ∧ ∀ row, BC P2 row 100 = if Ao row 0 = 0 then ((AK false, 0), 98) else ((Am, Ao row 0), 0) := by
 obtain ⟨P2, a1, _, a3, a4, a5, _⟩ := Ed (LA h hl)
 refine ⟨P2, a1, a5, fun row => ?_⟩
 rw [L8 h hP hl] at a1
 cases a1
 by_cases hc : Ao row 0 = 0
 · rw [if_pos hc, Ok a3 hc (by decide) (by decide)]
   exact Qo 98
 · rw [if_neg hc, Oq a3 hc]
theorem PU (b : Nat) (x : IT) : (Az b x).s = x.s := by unfold Az; split <;> rfl
theorem He {Q : ST → Prop} : ∀ (parts : List (List IT)) (out : List IT), (∀ P ∈ parts, ∀ x ∈ P, Q x.s) → (∀ x ∈ out, Q x.s) → ∀ x ∈ Bk parts out, Q x.s
 | [], out, _, ho => ho
 | p :: r, out, hp, ho => He r _ (fun P hP => hp P (List.mem_cons_of_mem _ hP)) (fun x hx => by
  rcases List.mem_append.mp hx with h | h
  · exact ho x h
  · obtain ⟨y, hy, rfl⟩ := List.mem_map.mp h
    rw [PU]
    exact hp p List.mem_cons_self y hy)
theorem Jh {Q : ST → Prop} (hz : Q zS) (j k : Int) {A B : List IT} (hA : ∀ x ∈ A, Q x.s) (hB : ∀ x ∈ B, Q x.s) : ∀ x ∈ AU j k A B, Q x.s := by
 unfold AU
 refine He _ _ (fun P hP x hx => ?_) (fun x hx => absurd hx List.not_mem_nil)
 simp only [List.mem_cons, List.not_mem_nil, or_false] at hP
 rcases hP with rfl | rfl | rfl | rfl
 · exact hA x hx
 · obtain rfl := List.mem_singleton.mp hx; exact hz
 · exact hB x hx
 · obtain rfl := List.mem_singleton.mp hx; exact hz
theorem LO {Q : ST → Prop} (hz : Q zS) {s : ST} (hs : Q s) {parts : List (List IT)} (hp : ∀ P ∈ parts, ∀ x ∈ P, Q x.s) : ∀ x ∈ AQ s parts, Q x.s := by
 have hg : ∀ i, ∀ x ∈ parts.getD i [], Q x.s := fun i x hx => by
   rw [List.getD_eq_getElem?_getD] at hx
   cases hi : parts[i]? with
   | none => rw [hi] at hx; exact absurd hx List.not_mem_nil
   | some P => rw [hi] at hx; exact hp P (List.mem_of_getElem? hi) x hx
 unfold AQ
 split
 · exact Jh hz _ _ (hg 0) (hg 1)
 split
 · exact Jh hz _ _ (hg 0) (hg 1)
 · intro x hx
   rcases List.mem_append.mp hx with h | h
   · exact He parts [] hp (fun x hx => absurd hx List.not_mem_nil) x h
   · obtain rfl := List.mem_singleton.mp h; exact hs
theorem Q7 {Q : ST → Prop} (hz : Q zS) : ∀ (l : List ST) (stk : List (List IT)), (∀ s ∈ l, Q s) → (∀ P ∈ stk, ∀ x ∈ P, Q x.s) → ∀ P ∈ AO l stk, ∀ x ∈ P, Q x.s
 | [], stk, _, hk => hk
 | s :: l, stk, hl, hk => Q7 hz l (Ba stk s) (fun t ht => hl t (List.mem_cons_of_mem _ ht)) (fun P hP => by
  unfold Ba at hP
  rcases List.mem_append.mp hP with h | h
  · exact hk P (List.mem_of_mem_take h)
  · obtain rfl := List.mem_singleton.mp h
    exact LO hz (hl s List.mem_cons_self) (fun P hP => hk P (List.mem_of_mem_drop hP)))
theorem S6 : Be zS := ⟨by unfold I64; decide, by decide, by decide⟩
theorem Ef {l : List ST} (h : ∀ s ∈ l, Be s) : ∀ x ∈ (AB l).1, Be x.s := by
 intro x hx
 unfold AB at hx
 split at hx
 · have hs := Q7 (Q := Be) S6 l [] h (fun P hP => absurd hP List.not_mem_nil)
   have hg : x ∈ (AO l []).getD 0 [] := hx
   rw [List.getD_eq_getElem?_getD] at hg
   cases hi : (AO l [])[0]? with
   | none => rw [hi] at hg; exact absurd hg List.not_mem_nil
   | some P => rw [hi] at hg; exact hs P (List.mem_of_getElem? hi) x hg
 · exact absurd hx List.not_mem_nil
end Go.Proofs.YtbemgcjckchdjaaGreatDoor
