import Derived.WalkKit
import Derived.WalkSpells
import Derived.WalkLawsBesides
import Derived.OneCell
import Derived.Lib.Hide
import Derived.Test.YtbemgcjckchdjaaGreatDoorRows
import Derived.Deep.QuietTactic
import Derived.BigQuiet
import Derived.Lib.ValidU
/- Values as trees, and how they lie in memory. No function of the program. -/
namespace Go.Proofs.YtbemgcjckchdjaaGreatDoor
open Go.RowKit
set_option linter.unusedSimpArgs false
set_option linter.unusedVariables false
mutual
/-- a value: its kind, bool, int, text, parts, fields -/
inductive VT where
 | mk (k : Int) (b : Bool) (n : Int) (s : ByteArray) (l : VL) (f : FL)
inductive VL where
 | nil
 | cons (t : VT) (r : VL)
inductive FL where
 | nil
 | cons (s : ByteArray) (t : VT) (r : FL)
end
def VL.len : VL → Nat
 | .nil => 0
 | .cons _ r => r.len + 1
def FL.len : FL → Nat
 | .nil => 0
 | .cons _ _ r => r.len + 1
def LIM : Nat := 1048576
def I64 (n : Int) : Prop := -9223372036854775808 ≤ n ∧ n ≤ 9223372036854775807
mutual
/-- six cells that read as a value; all rows that it leads to lie in blocks from lo on, below hi -/
def RV (w : World) (lo hi : Nat) : VT → List Value → Prop
 | .mk k b n s l f, cs => ∃ a1 c1 a2 c2, cs = [.int .u8 k, .bool b, .int .i64 n, .string s, .slice a1 l.len c1, .slice a2 f.len c2] ∧
  (0 ≤ k ∧ k ≤ 255) ∧ I64 n ∧ s.size ≤ LIM ∧ l.len ≤ LIM ∧ f.len ≤ LIM ∧ l.len ≤ c1 ∧ f.len ≤ c2 ∧
  (l.len = 0 ∨ ∃ b o, a1 = some ⟨b, o, none⟩ ∧ lo ≤ b ∧ b < hi ∧ RL w lo hi l b o) ∧
  (f.len = 0 ∨ ∃ b o, a2 = some ⟨b, o, none⟩ ∧ lo ≤ b ∧ b < hi ∧ RF w lo hi f b o)
def RL (w : World) (lo hi : Nat) : VL → Nat → Nat → Prop
 | .nil, _, _ => True
 | .cons t r, b, o => (∃ v0 v1 v2 v3 v4 v5, w.cell? ⟨b, o, none⟩ = some v0 ∧ w.cell? ⟨b, o + 1, none⟩ = some v1 ∧ w.cell? ⟨b, o + 2, none⟩ = some v2 ∧ w.cell? ⟨b, o + 3, none⟩ = some v3 ∧ w.cell? ⟨b, o + 4, none⟩ = some v4 ∧ w.cell? ⟨b, o + 5, none⟩ = some v5 ∧ RV w lo hi t [v0, v1, v2, v3, v4, v5]) ∧ RL w lo hi r b (o + 6)
def RF (w : World) (lo hi : Nat) : FL → Nat → Nat → Prop
 | .nil, _, _ => True
 | .cons s t r, b, o => (w.cell? ⟨b, o, none⟩ = some (.string s) ∧ s.size ≤ LIM ∧ ∃ v0 v1 v2 v3 v4 v5, w.cell? ⟨b, o + 1, none⟩ = some v0 ∧ w.cell? ⟨b, o + 2, none⟩ = some v1 ∧ w.cell? ⟨b, o + 3, none⟩ = some v2 ∧ w.cell? ⟨b, o + 4, none⟩ = some v3 ∧ w.cell? ⟨b, o + 5, none⟩ = some v4 ∧ w.cell? ⟨b, o + 6, none⟩ = some v5 ∧ RV w lo hi t [v0, v1, v2, v3, v4, v5]) ∧ RF w lo hi r b (o + 7)
end
def Same (hi : Nat) (w w' : World) : Prop := ∀ b o, b < hi → w'.cell? ⟨b, o, none⟩ = w.cell? ⟨b, o, none⟩
theorem Same.of_below {hi : Nat} {w w' : World} (h : Below hi w w') : Same hi w w' := fun b o hb => h.cell (p := ⟨b, o, none⟩) hb
mutual
theorem RV.keep {w w' : World} {lo hi lo' hi' : Nat} (hs : Same hi w w') (h1 : lo' ≤ lo) (h2 : hi ≤ hi') : ∀ (t : VT) (cs : List Value), RV w lo hi t cs → RV w' lo' hi' t cs
 | .mk k b n s l f, cs, h => by
   unfold RV at h ⊢
   obtain ⟨a1, c1, a2, c2, e, hk, hn, hsz, hl, hf, hc1, hc2, hL, hF⟩ := h
   refine ⟨a1, c1, a2, c2, e, hk, hn, hsz, hl, hf, hc1, hc2, ?_, ?_⟩
   · rcases hL with h0 | ⟨b', o, rfl, hlo, hhi, hr⟩
     · exact Or.inl h0
     · exact Or.inr ⟨b', o, rfl, by omega, by omega, RL.keep hs h1 h2 l b' o hhi hr⟩
   · rcases hF with h0 | ⟨b', o, rfl, hlo, hhi, hr⟩
     · exact Or.inl h0
     · exact Or.inr ⟨b', o, rfl, by omega, by omega, RF.keep hs h1 h2 f b' o hhi hr⟩
theorem RL.keep {w w' : World} {lo hi lo' hi' : Nat} (hs : Same hi w w') (h1 : lo' ≤ lo) (h2 : hi ≤ hi') : ∀ (l : VL) (b o : Nat), b < hi → RL w lo hi l b o → RL w' lo' hi' l b o
 | .nil, _, _, _, _ => by unfold RL; trivial
 | .cons t r, b, o, hb, h => by
   unfold RL at h ⊢
   obtain ⟨⟨v0, v1, v2, v3, v4, v5, e0, e1, e2, e3, e4, e5, hv⟩, hr⟩ := h
   exact ⟨⟨v0, v1, v2, v3, v4, v5, (hs _ _ hb).trans e0, (hs _ _ hb).trans e1, (hs _ _ hb).trans e2, (hs _ _ hb).trans e3, (hs _ _ hb).trans e4, (hs _ _ hb).trans e5, RV.keep hs h1 h2 t _ hv⟩, RL.keep hs h1 h2 r b (o + 6) hb hr⟩
theorem RF.keep {w w' : World} {lo hi lo' hi' : Nat} (hs : Same hi w w') (h1 : lo' ≤ lo) (h2 : hi ≤ hi') : ∀ (f : FL) (b o : Nat), b < hi → RF w lo hi f b o → RF w' lo' hi' f b o
 | .nil, _, _, _, _ => by unfold RF; trivial
 | .cons s t r, b, o, hb, h => by
   unfold RF at h ⊢
   obtain ⟨⟨es, hss, v0, v1, v2, v3, v4, v5, e0, e1, e2, e3, e4, e5, hv⟩, hr⟩ := h
   exact ⟨⟨(hs _ _ hb).trans es, hss, v0, v1, v2, v3, v4, v5, (hs _ _ hb).trans e0, (hs _ _ hb).trans e1, (hs _ _ hb).trans e2, (hs _ _ hb).trans e3, (hs _ _ hb).trans e4, (hs _ _ hb).trans e5, RV.keep hs h1 h2 t _ hv⟩, RF.keep hs h1 h2 r b (o + 7) hb hr⟩
end
theorem RV.below {w w' : World} {lo hi : Nat} {t : VT} {cs : List Value} (h : RV w lo hi t cs) (hb : Below hi w w') : RV w' lo hi t cs := RV.keep (Same.of_below hb) (Nat.le_refl _) (Nat.le_refl _) t cs h
def VL.get? : VL → Nat → Option VT
 | .nil, _ => none
 | .cons t _, 0 => some t
 | .cons _ r, i + 1 => r.get? i
def FL.get? : FL → Nat → Option (ByteArray × VT)
 | .nil, _ => none
 | .cons s t _, 0 => some (s, t)
 | .cons _ _ r, i + 1 => r.get? i
theorem VL.get?_lt : ∀ (l : VL) (i : Nat), i < l.len → ∃ t, l.get? i = some t
 | .nil, i, h => absurd h (Nat.not_lt_zero _)
 | .cons t r, 0, _ => ⟨t, rfl⟩
 | .cons t r, i + 1, h => VL.get?_lt r i (by simp only [VL.len] at h; omega)
theorem FL.get?_lt : ∀ (l : FL) (i : Nat), i < l.len → ∃ t, l.get? i = some t
 | .nil, i, h => absurd h (Nat.not_lt_zero _)
 | .cons s t r, 0, _ => ⟨(s, t), rfl⟩
 | .cons s t r, i + 1, h => FL.get?_lt r i (by simp only [FL.len] at h; omega)
theorem RL.at {w : World} {lo hi : Nat} : ∀ (l : VL) (b o i : Nat) (t : VT), RL w lo hi l b o → l.get? i = some t →
   ∃ v0 v1 v2 v3 v4 v5, w.cell? ⟨b, o + i * 6, none⟩ = some v0 ∧ w.cell? ⟨b, o + i * 6 + 1, none⟩ = some v1 ∧ w.cell? ⟨b, o + i * 6 + 2, none⟩ = some v2 ∧ w.cell? ⟨b, o + i * 6 + 3, none⟩ = some v3 ∧ w.cell? ⟨b, o + i * 6 + 4, none⟩ = some v4 ∧ w.cell? ⟨b, o + i * 6 + 5, none⟩ = some v5 ∧ RV w lo hi t [v0, v1, v2, v3, v4, v5]
 | .nil, _, _, _, _, _, h => by simp [VL.get?] at h
 | .cons t r, b, o, 0, t', h, e => by
   unfold RL at h
   simp only [VL.get?, Option.some.injEq] at e
   subst e
   simpa using h.1
 | .cons t r, b, o, i + 1, t', h, e => by
   unfold RL at h
   have := RL.at r b (o + 6) i t' h.2 (by simpa [VL.get?] using e)
   rwa [show o + 6 + i * 6 = o + (i + 1) * 6 by omega] at this
theorem RF.at {w : World} {lo hi : Nat} : ∀ (l : FL) (b o i : Nat) (s : ByteArray) (t : VT), RF w lo hi l b o → l.get? i = some (s, t) →
   w.cell? ⟨b, o + i * 7, none⟩ = some (.string s) ∧ s.size ≤ LIM ∧ ∃ v0 v1 v2 v3 v4 v5, w.cell? ⟨b, o + i * 7 + 1, none⟩ = some v0 ∧ w.cell? ⟨b, o + i * 7 + 2, none⟩ = some v1 ∧ w.cell? ⟨b, o + i * 7 + 3, none⟩ = some v2 ∧ w.cell? ⟨b, o + i * 7 + 4, none⟩ = some v3 ∧ w.cell? ⟨b, o + i * 7 + 5, none⟩ = some v4 ∧ w.cell? ⟨b, o + i * 7 + 6, none⟩ = some v5 ∧ RV w lo hi t [v0, v1, v2, v3, v4, v5]
 | .nil, _, _, _, _, _, _, h => by simp [FL.get?] at h
 | .cons s t r, b, o, 0, s', t', h, e => by
   unfold RF at h
   simp only [FL.get?, Option.some.injEq, Prod.mk.injEq] at e
   obtain ⟨rfl, rfl⟩ := e
   simpa using h.1
 | .cons s t r, b, o, i + 1, s', t', h, e => by
   unfold RF at h
   have := RF.at r b (o + 7) i s' t' h.2 (by simpa [FL.get?] using e)
   rwa [show o + 7 + i * 7 = o + (i + 1) * 7 by omega] at this
/- The smallest functions of package value: unless, first, flat, bare. -/
theorem Q5 (e : Int) (w : World) : Calls Tryz.prog 53 #[.bool true, .int .i64 e] w fun x w' => x = .returned (.int .i64 0) ∧ w = w' := by
 go_enter Tryz.func53, Tryz.ntmps53
 go_wp2
 go_ret
 exact ⟨rfl, rfl⟩
theorem Q4 (e : Int) (w : World) : Calls Tryz.prog 53 #[.bool false, .int .i64 e] w fun x w' => x = .returned (.int .i64 e) ∧ w = w' := by
 go_enter Tryz.func53, Tryz.ntmps53
 go_wp2
 go_ret
 exact ⟨rfl, rfl⟩
def Br (b : Bool) (e : Int) : Int := if b then 0 else e
theorem IB (b : Bool) (e : Int) (w : World) : Calls Tryz.prog 53 #[.bool b, .int .i64 e] w fun x w' => x = .returned (.int .i64 (Br b e)) ∧ w = w' := by
 cases b
 · exact Q4 e w
 · exact Q5 e w
def AR : List Int → Int
 | [] => 0
 | z :: r => if z = 0 then AR r else z
theorem GN (zs : List Int) (k : Nat) (h : k < zs.length) : AR (zs.drop k) = if zs.getD k 0 = 0 then AR (zs.drop (k + 1)) else zs.getD k 0 := by
 rw [List.drop_eq_getElem_cons h]
 simp [AR, List.getD, List.getElem?_eq_getElem h]
set_option maxHeartbeats 400000 in
theorem Jz (b : Nat) (zs : List Int) (cap : Nat) (w : World) (hn : zs.length ≤ 1000) (hc : ∀ i, i < zs.length → w.cell? ⟨b, i, none⟩ = some (.int .i64 (zs.getD i 0))) :
  Calls Tryz.prog 52 #[.slice (some ⟨b, 0, none⟩) zs.length cap] w fun x w' => x = .returned (.int .i64 (AR zs)) ∧ w = w' := by
 have HC := Lib.hid hc
 clear hc
 obtain ⟨r, hr⟩ : ∃ r, AR zs = r := ⟨_, rfl⟩
 rw [hr]
 have HR := Lib.hid hr
 clear hr
 go_enter Tryz.func52, Tryz.ntmps52
 go_wp2
 go_loop [7] (fun i => ∃ k : Nat, k ≤ zs.length ∧ i = .int .i64 k ∧ Hid (AR (zs.drop k) = r)) (fun i => zs.length - (intOf i).toNat)
 case atStart => exact ⟨0, by omega, rfl, HR⟩
 case round =>
  obtain ⟨k, hk, rfl, HF⟩ := hrel
  by_cases hlt : k < zs.length
  · have hcell := HC.out k hlt
    have hd := GN zs k hlt
    obtain ⟨z, hzd⟩ : ∃ z, zs.getD k 0 = z := ⟨_, rfl⟩
    rw [hzd] at hcell hd
    clear hzd
    have HD := Lib.hid hd
    clear hd
    by_cases hz : z = 0
    · subst hz
      go_wp2
      refine ⟨⟨k + 1, by omega, by go_num, ?_⟩, by simp [intOf]; omega⟩
      have h1 := HF.out
      rw [HD.out, if_pos rfl] at h1
      exact h1
    · have hz' : (z != 0) = true := by simp only [bne_iff_ne]; exact hz
      have hz2 : (z == 0) = false := by simpa using hz
      have HZ := Lib.hid hz
      clear hz
      go_wp2
      go_ret
      have h1 := HF.out
      rw [HD.out, if_neg HZ.out] at h1
      exact ⟨by rw [← h1]; rfl, rfl⟩
  · go_wp2
    go_ret
    have h1 := HF.out
    rw [List.drop_of_length_le (by omega)] at h1
    exact ⟨by rw [← h1]; rfl, rfl⟩
def DR (k1 : Int) (b1 : Bool) (n1 : Int) (s1 : ByteArray) (l1 f1 : Nat) (k2 : Int) (b2 : Bool) (n2 : Int) (s2 : ByteArray) (l2 f2 : Nat) : Bool :=
 k1 == k2 && (b1 == b2 && (n1 == n2 && (s1.toList == s2.toList && (l1 == l2 && f1 == f2))))
section
variable (k1 : Int) (b1 : Bool) (n1 : Int) (s1 : ByteArray) (a1 : Option Addr) (l1 c1 : Nat) (e1 : Option Addr) (f1 d1 : Nat) (k2 : Int) (b2 : Bool) (n2 : Int) (s2 : ByteArray) (a2 : Option Addr) (l2 c2 : Nat) (e2 : Option Addr) (f2 d2 : Nat) (w : World)
set_option maxHeartbeats 1000000 in
theorem KA :
   Calls Tryz.prog 25 #[.agg #[.int .u8 k1, .bool b1, .int .i64 n1, .string s1, .slice a1 l1 c1, .slice e1 f1 d1], .agg #[.int .u8 k2, .bool b2, .int .i64 n2, .string s2, .slice a2 l2 c2, .slice e2 f2 d2]] w fun x w' => x = .returned (.bool (DR k1 b1 n1 s1 l1 f1 k2 b2 n2 s2 l2 f2)) ∧ Below w.heap.size w w' := by
 have fin : ∀ r, DR k1 b1 n1 s1 l1 f1 k2 b2 n2 s2 l2 f2 = r → Ending.returned (.bool r) = Ending.returned (.bool (DR k1 b1 n1 s1 l1 f1 k2 b2 n2 s2 l2 f2)) := fun r h => by rw [h]
 unfold DR at fin ⊢
 cases q1 : (k1 == k2) with
 | false =>
   go_enter Tryz.func25, Tryz.ntmps25
   go_wp2
   go_ret
   exact ⟨rfl, ((Below.refl _ _).alloc (Nat.le_refl _) _).alloc (by simp) _⟩
 | true =>
 cases q2 : (b1 == b2) with
 | false =>
   go_enter Tryz.func25, Tryz.ntmps25
   go_wp2
   go_ret
   exact ⟨rfl, ((Below.refl _ _).alloc (Nat.le_refl _) _).alloc (by simp) _⟩
 | true =>
 cases q3 : (n1 == n2) with
 | false =>
   go_enter Tryz.func25, Tryz.ntmps25
   go_wp2
   go_ret
   exact ⟨rfl, ((Below.refl _ _).alloc (Nat.le_refl _) _).alloc (by simp) _⟩
 | true =>
 cases q4 : (s1.toList == s2.toList) with
 | false =>
   go_enter Tryz.func25, Tryz.ntmps25
   go_wp2
   go_ret
   exact ⟨rfl, ((Below.refl _ _).alloc (Nat.le_refl _) _).alloc (by simp) _⟩
 | true =>
 have i5 : ((l1 : Int) == (l2 : Int)) = (l1 == l2) := by rw [Bool.eq_iff_iff]; simp; omega
 have i6 : ((f1 : Int) == (f2 : Int)) = (f1 == f2) := by rw [Bool.eq_iff_iff]; simp; omega
 cases q5 : (l1 == l2) with
 | false =>
   go_enter Tryz.func25, Tryz.ntmps25
   go_wp2
   go_ret
   exact ⟨rfl, ((Below.refl _ _).alloc (Nat.le_refl _) _).alloc (by simp) _⟩
 | true =>
   go_enter Tryz.func25, Tryz.ntmps25
   go_wp2
   go_ret
   exact ⟨rfl, ((Below.refl _ _).alloc (Nat.le_refl _) _).alloc (by simp) _⟩
end
/- value.bare, kind by kind. -/
def G8 (k : Int) (b : Bool) (n : Int) (s : ByteArray) (sl sf : Value) : Value :=
 .agg #[.int .u8 k, .bool (if k = 1 then b else false), .int .i64 (if k = 2 then n else 0), .string (if k = 3 ∨ k = 4 then s else ⟨#[]⟩), if k = 5 then sl else .slice none 0 0, if k = 6 then sf else .slice none 0 0]
section
variable (k : Int) (b : Bool) (n : Int) (s : ByteArray) (a1 : Option Addr) (l1 c1 : Nat) (a2 : Option Addr) (l2 c2 : Nat) (w : World)
theorem Ae {w : World} {b : Nat} {a0 a1 a2 a3 a4 a5 : Value} {T : TypeId} (h : w.heap[b]? = some (.cells #[a0, a1, a2, a3, a4, a5] T (0, 0))) :
  w.cell? ⟨b, 0, none⟩ = some a0 ∧ w.cell? ⟨b, 1, none⟩ = some a1 ∧ w.cell? ⟨b, 2, none⟩ = some a2 ∧ w.cell? ⟨b, 3, none⟩ = some a3 ∧ w.cell? ⟨b, 4, none⟩ = some a4 ∧ w.cell? ⟨b, 5, none⟩ = some a5 ∧ (∀ o, w.frozen? ⟨b, o, none⟩ = false) := by
 simp [World.cell?, World.frozen?, h]
set_option maxHeartbeats 1000000 in
theorem RZ  : Calls Tryz.prog 54 #[.agg #[.int .u8 1, .bool b, .int .i64 n, .string s, .slice a1 l1 c1, .slice a2 l2 c2]] w fun x w' => x = .returned (.agg #[.int .u8 1, .bool b, .int .i64 0, .string ⟨#[]⟩, .slice none 0 0, .slice none 0 0]) ∧ Below w.heap.size w w' := by
 go_enter Tryz.func54, Tryz.ntmps54
 go_wp2
 refine bodyPost_ret (v := .agg #[.int .u8 1, .bool b, .int .i64 0, .string ⟨#[]⟩, .slice none 0 0, .slice none 0 0]) (by simp [results, Tryz.results54, go_sem]) rfl ⟨rfl, ?_⟩
 repeat (first | with_reducible exact Below.refl _ _ | refine Below.alloc ?_ (by first | (simp; done) | (simp; omega)) _ | refine Below.setCell ?_ (by first | (simp; done) | (simp; omega)) _)
set_option maxHeartbeats 1000000 in
theorem Sa  : Calls Tryz.prog 54 #[.agg #[.int .u8 2, .bool b, .int .i64 n, .string s, .slice a1 l1 c1, .slice a2 l2 c2]] w fun x w' => x = .returned (.agg #[.int .u8 2, .bool false, .int .i64 n, .string ⟨#[]⟩, .slice none 0 0, .slice none 0 0]) ∧ Below w.heap.size w w' := by
 go_enter Tryz.func54, Tryz.ntmps54
 go_wp2
 refine bodyPost_ret (v := .agg #[.int .u8 2, .bool false, .int .i64 n, .string ⟨#[]⟩, .slice none 0 0, .slice none 0 0]) (by simp [results, Tryz.results54, go_sem]) rfl ⟨rfl, ?_⟩
 repeat (first | with_reducible exact Below.refl _ _ | refine Below.alloc ?_ (by first | (simp; done) | (simp; omega)) _ | refine Below.setCell ?_ (by first | (simp; done) | (simp; omega)) _)
set_option maxHeartbeats 1000000 in
theorem Sb  : Calls Tryz.prog 54 #[.agg #[.int .u8 3, .bool b, .int .i64 n, .string s, .slice a1 l1 c1, .slice a2 l2 c2]] w fun x w' => x = .returned (.agg #[.int .u8 3, .bool false, .int .i64 0, .string s, .slice none 0 0, .slice none 0 0]) ∧ Below w.heap.size w w' := by
 go_enter Tryz.func54, Tryz.ntmps54
 go_wp2
 refine bodyPost_ret (v := .agg #[.int .u8 3, .bool false, .int .i64 0, .string s, .slice none 0 0, .slice none 0 0]) (by simp [results, Tryz.results54, go_sem]) rfl ⟨rfl, ?_⟩
 repeat (first | with_reducible exact Below.refl _ _ | refine Below.alloc ?_ (by first | (simp; done) | (simp; omega)) _ | refine Below.setCell ?_ (by first | (simp; done) | (simp; omega)) _)
set_option maxHeartbeats 1000000 in
theorem Sc  : Calls Tryz.prog 54 #[.agg #[.int .u8 4, .bool b, .int .i64 n, .string s, .slice a1 l1 c1, .slice a2 l2 c2]] w fun x w' => x = .returned (.agg #[.int .u8 4, .bool false, .int .i64 0, .string s, .slice none 0 0, .slice none 0 0]) ∧ Below w.heap.size w w' := by
 go_enter Tryz.func54, Tryz.ntmps54
 go_wp2
 refine bodyPost_ret (v := .agg #[.int .u8 4, .bool false, .int .i64 0, .string s, .slice none 0 0, .slice none 0 0]) (by simp [results, Tryz.results54, go_sem]) rfl ⟨rfl, ?_⟩
 repeat (first | with_reducible exact Below.refl _ _ | refine Below.alloc ?_ (by first | (simp; done) | (simp; omega)) _ | refine Below.setCell ?_ (by first | (simp; done) | (simp; omega)) _)
set_option maxHeartbeats 1000000 in
theorem Sd  : Calls Tryz.prog 54 #[.agg #[.int .u8 5, .bool b, .int .i64 n, .string s, .slice a1 l1 c1, .slice a2 l2 c2]] w fun x w' => x = .returned (.agg #[.int .u8 5, .bool false, .int .i64 0, .string ⟨#[]⟩, .slice a1 l1 c1, .slice none 0 0]) ∧ Below w.heap.size w w' := by
 go_enter Tryz.func54, Tryz.ntmps54
 go_wp2
 refine bodyPost_ret (v := .agg #[.int .u8 5, .bool false, .int .i64 0, .string ⟨#[]⟩, .slice a1 l1 c1, .slice none 0 0]) (by simp [results, Tryz.results54, go_sem]) rfl ⟨rfl, ?_⟩
 repeat (first | with_reducible exact Below.refl _ _ | refine Below.alloc ?_ (by first | (simp; done) | (simp; omega)) _ | refine Below.setCell ?_ (by first | (simp; done) | (simp; omega)) _)
set_option maxHeartbeats 1000000 in
theorem Se  : Calls Tryz.prog 54 #[.agg #[.int .u8 6, .bool b, .int .i64 n, .string s, .slice a1 l1 c1, .slice a2 l2 c2]] w fun x w' => x = .returned (.agg #[.int .u8 6, .bool false, .int .i64 0, .string ⟨#[]⟩, .slice none 0 0, .slice a2 l2 c2]) ∧ Below w.heap.size w w' := by
 go_enter Tryz.func54, Tryz.ntmps54
 go_wp2
 refine bodyPost_ret (v := .agg #[.int .u8 6, .bool false, .int .i64 0, .string ⟨#[]⟩, .slice none 0 0, .slice a2 l2 c2]) (by simp [results, Tryz.results54, go_sem]) rfl ⟨rfl, ?_⟩
 repeat (first | with_reducible exact Below.refl _ _ | refine Below.alloc ?_ (by first | (simp; done) | (simp; omega)) _ | refine Below.setCell ?_ (by first | (simp; done) | (simp; omega)) _)
set_option maxHeartbeats 1000000 in
theorem Sf (h : k = 0 ∨ 7 ≤ k) : Calls Tryz.prog 54 #[.agg #[.int .u8 k, .bool b, .int .i64 n, .string s, .slice a1 l1 c1, .slice a2 l2 c2]] w fun x w' => x = .returned (.agg #[.int .u8 k, .bool false, .int .i64 0, .string ⟨#[]⟩, .slice none 0 0, .slice none 0 0]) ∧ Below w.heap.size w w' := by
 have h1 : (k == 1) = false := by simp; omega
 have h2 : (k == 2) = false := by simp; omega
 have h3 : (k == 3) = false := by simp; omega
 have h4 : (k == 4) = false := by simp; omega
 have h5 : (k == 5) = false := by simp; omega
 have h6 : (k == 6) = false := by simp; omega
 go_enter Tryz.func54, Tryz.ntmps54
 go_wp2
 refine bodyPost_ret (v := .agg #[.int .u8 k, .bool false, .int .i64 0, .string ⟨#[]⟩, .slice none 0 0, .slice none 0 0]) (by simp [results, Tryz.results54, go_sem]) rfl ⟨rfl, ?_⟩
 repeat (first | with_reducible exact Below.refl _ _ | refine Below.alloc ?_ (by first | (simp; done) | (simp; omega)) _ | refine Below.setCell ?_ (by first | (simp; done) | (simp; omega)) _)
theorem Pi (hk : 0 ≤ k) : Calls Tryz.prog 54 #[.agg #[.int .u8 k, .bool b, .int .i64 n, .string s, .slice a1 l1 c1, .slice a2 l2 c2]] w fun x w' => x = .returned (G8 k b n s (.slice a1 l1 c1) (.slice a2 l2 c2)) ∧ Below w.heap.size w w' := by
 by_cases h : k = 0 ∨ 7 ≤ k
 · have e : G8 k b n s (.slice a1 l1 c1) (.slice a2 l2 c2) = .agg #[.int .u8 k, .bool false, .int .i64 0, .string ⟨#[]⟩, .slice none 0 0, .slice none 0 0] := by
     unfold G8
     rw [if_neg (by omega), if_neg (by omega), if_neg (by omega), if_neg (by omega), if_neg (by omega)]
   rw [e]; exact Sf k b n s a1 l1 c1 a2 l2 c2 w h
 · obtain rfl | rfl | rfl | rfl | rfl | rfl : k = 1 ∨ k = 2 ∨ k = 3 ∨ k = 4 ∨ k = 5 ∨ k = 6 := by omega
   · exact RZ b n s a1 l1 c1 a2 l2 c2 w
   · exact Sa b n s a1 l1 c1 a2 l2 c2 w
   · exact Sb b n s a1 l1 c1 a2 l2 c2 w
   · exact Sc b n s a1 l1 c1 a2 l2 c2 w
   · exact Sd b n s a1 l1 c1 a2 l2 c2 w
   · exact Se b n s a1 l1 c1 a2 l2 c2 w
end
/- A REGION WHOSE FIRST n OPERATIONS ARE QUIET IN A CLASS OF WORLDS AND WHOSE OTHER OPERATIONS WAIT FOR ALL OF THEM: the quiet part is walked once, in the order of the text; the tail by wpAny. Over Derived/Deep/Quiet.lean's laws. No program in sight. -/
open Go
section
variable {P : Program} {ops : Array Oper} {md : Region.Mode} {C : World → Prop}
def Aft (md : Region.Mode) (ops : Array Oper) (listed : Array Bool) (j : Nat) : Prop :=
 ∀ o, ops[j]? = some o → ∀ e ∈ o.after, Region.binds md e = true → listed.getD e.on false = true
def Down (md : Region.Mode) (ops : Array Oper) (listed : Array Bool) : Prop := ∀ j, listed.getD j false = true → Aft md ops listed j
def G4 (n : Nat) (listed : Array Bool) : Prop := ∀ k, k < n → listed.getD k false = true
theorem Aft.set {listed : Array Bool} {j : Nat} (i : Nat) (h : Aft md ops listed j) : Aft md ops (listed.setIfInBounds i true) j :=
 fun o ho e he hb => getD_set_true (h o ho e he hb)
theorem FX {listed : Array Bool} {j : Nat} (h : j ∈ Region.ready md ops listed) : Aft md ops listed j := by
 obtain ⟨_, o, ho, hall⟩ := mem_ready.1 h
 intro o' ho' e he hb
 rw [ho] at ho'
 cases ho'
 exact hall e he hb
theorem Down.set {listed : Array Bool} {i : Nat} (hd : Down md ops listed) (hi : i ∈ Region.ready md ops listed) : Down md ops (listed.setIfInBounds i true) := by
 intro j hj
 by_cases hji : i = j
 · subst hji; exact (FX hi).set i
 · refine (hd j ?_).set i
   rw [Array.getD_eq_getD_getElem?, Array.getElem?_setIfInBounds_ne hji, ← Array.getD_eq_getD_getElem?] at hj
   exact hj
def I7 (md : Region.Mode) (ops : Array Oper) (n : Nat) : Bool :=
 ((List.range n).all fun k => (List.range (n + 1)).any fun s => decide (k < s) && match ops[s]? with | some o => o.after.any (fun e => Region.binds md e && e.on == k) | none => false)
 && ((List.range ops.size).all fun j => decide (j ≤ n) || match ops[j]? with | some o => o.after.any (fun e => Region.binds md e && decide (n ≤ e.on) && decide (e.on < j)) | none => false)
theorem Nr {n : Nat} (hB : I7 md ops n = true) {listed : Array Bool} (hd : Down md ops listed) {j : Nat} (hn : n ≤ j) (hj : j ∈ Region.ready md ops listed) : G4 n listed := by
 simp only [I7, Bool.and_eq_true, List.all_eq_true, List.mem_range, List.any_eq_true] at hB
 obtain ⟨h1, h2⟩ := hB
 have hA : ∀ d j, j = n + d → j < ops.size → Aft md ops listed j → Aft md ops listed n := by
  intro d
  induction d using Nat.strongRecOn with
  | _ d ih =>
    intro j hjd hlt ha
    by_cases h0 : d = 0
    · subst h0; simpa [hjd] using ha
    · have h3 := h2 j hlt
      rw [Array.getElem?_eq_getElem hlt] at h3
      have h4 : decide (j ≤ n) = false := by simp; omega
      rw [h4] at h3
      simp only [Bool.false_or, Array.any_eq_true', Bool.and_eq_true, decide_eq_true_eq] at h3
      obtain ⟨e, he, ⟨hb, hne⟩, hej⟩ := h3
      have h5 := ha _ (Array.getElem?_eq_getElem hlt) e he hb
      exact ih (e.on - n) (by omega) e.on (by omega) (by omega) (hd _ h5)
 have hlt : j < ops.size := by
  obtain ⟨_, o, ho, _⟩ := mem_ready.1 hj
  exact (Array.getElem?_eq_some_iff.1 ho).1
 have hN := hA (j - n) j (by omega) hlt (FX hj)
 intro k hk
 have hall : ∀ d k, k + d = n → 0 < d → listed.getD k false = true := by
  intro d
  induction d using Nat.strongRecOn with
  | _ d ih =>
    intro k hkd hd0
    obtain ⟨s, hs, h3⟩ := h1 k (by omega)
    simp only [Bool.and_eq_true, decide_eq_true_eq] at h3
    obtain ⟨hks, h3⟩ := h3
    have hsn : s < n + 1 := by simpa using hs
    cases ho : ops[s]? with
    | none => simp [ho] at h3
    | some o =>
      simp only [ho, Array.any_eq_true', Bool.and_eq_true, beq_iff_eq] at h3
      obtain ⟨e, he, hb, hek⟩ := h3
      have hAs : Aft md ops listed s := by
       by_cases hsn' : s = n
       · rw [hsn']; exact hN
       · exact hd s (ih (n - s) (by omega) s (by omega) (by omega))
      have := hAs o ho e he hb
      rwa [hek] at this
 exact hall (n - k) k (by omega) (by omega)
def G3 (P : Program) (md : Region.Mode) (ops : Array Oper) (C : World → Prop) (n : Nat) (Q : Array Bool → Act → Prop) : Nat → Array Bool → Act → Prop
 | 0, _, _ => False
 | fuel + 1, listed, a => (G4 n listed → Q listed a) ∧
   (¬ G4 n listed → Region.ready md ops listed ≠ [] ∧ ∀ i ∈ Region.ready md ops listed, qOp P ops C i (G3 P md ops C n Q fuel (listed.setIfInBounds i true)) a)
theorem IG {Q : Exit → Act → World → Prop} : ∀ (fuel : Nat) (listed : Array Bool) (a : Act) (w : World), wpAny P md ops Q fuel listed a w → wpAny P md ops Q (fuel + 1) listed a w
 | 0, _, _, _, h => ⟨fun _ => h.2, fun i hi => by rw [h.1] at hi; cases hi⟩
 | fuel + 1, _, _, _, h => ⟨h.1, fun i hi => wpOp_mono (fun a' w' h' => IG fuel _ a' w' h') (h.2 i hi)⟩
theorem JQ {Q : Exit → Act → World → Prop} {fuel : Nat} {listed : Array Bool} {a : Act} {w : World} (h : wpAny P md ops Q fuel listed a w) : ∀ d, wpAny P md ops Q (d + fuel) listed a w
 | 0 => by rw [Nat.zero_add]; exact h
 | d + 1 => by rw [show d + 1 + fuel = (d + fuel) + 1 by omega]; exact IG _ _ _ _ (JQ h d)
theorem IF {n m : Nat} {Q : Array Bool → Act → Prop} {Q' : Exit → Act → World → Prop} (hQ : ∀ listed a w, C w → Q listed a → wpAny P md ops Q' m listed a w) : ∀ (fuel : Nat) (listed : Array Bool) (a : Act) (w : World), C w →
   G3 P md ops C n Q (fuel + 1) listed a → wpAny P md ops Q' (fuel + m) listed a w
 | fuel, listed, a, w, hw, h => by
   by_cases hA : G4 n listed
   · exact JQ (hQ _ _ _ hw (h.1 hA)) fuel
   · obtain ⟨hne, hall⟩ := h.2 hA
     cases fuel with
     | zero =>
       obtain ⟨i, r, hir⟩ := List.exists_cons_of_ne_nil hne
       have hi : i ∈ Region.ready md ops listed := by rw [hir]; exact List.mem_cons_self ..
       have h1 := hall i hi
       unfold qOp at h1
       exfalso
       split at h1
       · exact h1
       · split at h1
         · obtain ⟨v, _, h2⟩ := h1; exact h2
         · exact h1
     | succ fuel =>
       rw [show fuel + 1 + m = (fuel + m) + 1 by omega]
       exact ⟨fun h0 => absurd h0 hne, fun i hi => wpOp_of_qOp hw (fun a' w' hw' h' => IF hQ fuel _ a' w' hw' h') (hall i hi)⟩
theorem DO {i : Nat} {listed : Array Bool} (h : i ∈ Region.ready md ops listed) : listed.getD i false = false := by
 have h0 := (mem_ready.1 h).1
 rcases Nat.lt_or_ge i listed.size with h' | h'
 · simp [h'] at h0 ⊢; exact h0
 · simp [Array.getElem?_eq_none h']
theorem Lx {n : Nat} {Q : Array Bool → Act → Prop} {i : Nat} {oi : Oper} {v : Value} (hi : ops[i]? = some oi) (hin : i < n) (hT : I7 md ops n = true) (hsel : ∀ (j : Nat) (o : Oper) cs b, ops[j]? = some o → o.op ≠ .select cs b) :
   ∀ (fuel : Nat) (listed : Array Bool) (a : Act), Down md ops listed →
     (∀ j oj, ops[j]? = some oj → j ≠ i → listed.getD j true = false → (∀ e ∈ oj.after, Region.binds md e = true → e.on ≠ i) → oi.apart ops oj = true) →
     i ∈ Region.ready md ops listed → YieldsIn P ops C oi v a →
     G3 P md ops C n Q fuel (listed.setIfInBounds i true) (a.put oi.dst v) → G3 P md ops C n Q (fuel + 1) listed a := by
 intro fuel
 induction fuel with
 | zero => intro listed a _ _ _ _ H; exact H.elim
 | succ fuel ih =>
   intro listed a hdn hfree hr hy H
   have hun := DO hr
   have hnA : ¬ G4 n listed := fun hA => by rw [hA i hin] at hun; cases hun
   refine ⟨fun hA => absurd hA hnA, fun _ => ⟨fun h0 => (by rw [h0] at hr; cases hr), fun j hj => ?_⟩⟩
   by_cases hji : j = i
   · subst hji; exact hy.qOp hi H
   · have hjn : j < n := Nat.lt_of_not_le fun h => hnA (Nr hT hdn h hj)
     have hjr := ready_mono hj hji
     have hnA' : ¬ G4 n (listed.setIfInBounds i true) := fun hA => by
      have := DO hjr
      rw [hA j hjn] at this; cases this
     have h1 := (H.2 hnA').2 j hjr
     obtain ⟨hjun, oj, hoj, hall⟩ := mem_ready.1 hj
     have hnot : ∀ e ∈ oj.after, Region.binds md e = true → e.on ≠ i := fun e he hb heq => by
      have h1 := hall e he hb
      rw [heq, hun] at h1
      cases h1
     have h2 := qOp_put hoj (hfree j oj hoj hji hjun hnot) (fun cs b => hsel i oi cs b hi) (fun cs b => hsel j oj cs b hoj) hy h1
     have hfree' : ∀ k ok, ops[k]? = some ok → k ≠ i → (listed.setIfInBounds j true).getD k true = false →
        (∀ e ∈ ok.after, Region.binds md e = true → e.on ≠ i) → oi.apart ops ok = true := fun k ok hk hki hun hno => by
      refine hfree k ok hk hki ?_ hno
      by_cases hjk : j = k
      · subst hjk; exact hjun
      · rw [getD_set_ne true hjk] at hun; exact hun
     refine qOp_mono (fun a' h3 => ih (listed.setIfInBounds j true) a' (hdn.set hj) hfree' (ready_mono hr (Ne.symm hji)) h3.1 ?_) h2
     rw [Array.setIfInBounds_comm _ _ hji]
     exact h3.2
def Kg (md : Region.Mode) (ops : Array Oper) : Nat → Nat → Array Bool → Bool
 | 0, _, _ => true
 | fuel + 1, k, listed => (Region.ready md ops listed).contains k && Region.free md ops listed k && Kg md ops fuel (k + 1) (listed.setIfInBounds k true)
def after (n : Nat) (m : Nat) : Array Bool := (List.replicate n true ++ List.replicate m false).toArray
theorem IE {n : Nat} {Q : Array Bool → Act → Prop} (hs : Region.noSelect ops = true) (hT : I7 md ops n = true) : ∀ (l : List Oper) (k : Nat) (listed : Array Bool) (a : Act), k + l.length = n → (∀ j, j < l.length → l[j]? = ops[k + j]?) → Down md ops listed → (∀ j, j < k → listed.getD j false = true) → n ≤ listed.size →
   Kg md ops l.length k listed = true → wpQuiet P ops C (Q ((List.range' k l.length).foldl (fun s i => s.setIfInBounds i true) listed)) l a → G3 P md ops C n Q (l.length + 1) listed a
 | [], k, listed, a, hk, _, _, hA, _, _, h => ⟨fun _ => h, fun hn => absurd (fun j hj => hA j (by simp at hk; omega)) hn⟩
 | o :: l, k, listed, a, hk, hl, hdn, hA, hz, hB, h => by
   have h0 : ops[k]? = some o := by simpa using (hl 0 (by simp)).symm
   simp only [List.length_cons, Kg, Bool.and_eq_true] at hB hk
   obtain ⟨⟨hr, hf⟩, hB'⟩ := hB
   have hr' : k ∈ Region.ready md ops listed := by simpa using hr
   have hst : qOp P ops C k (wpQuiet P ops C (Q ((List.range' k (l.length + 1)).foldl (fun s i => s.setIfInBounds i true) listed)) l) a := by unfold qOp; simp only [h0]; exact h
   obtain ⟨v, hy, hK⟩ := yieldsIn_of_qOp h0 hst
   refine Lx h0 (by omega) hT (Region.noSelect_spec hs) (l.length + 1) listed a hdn (Region.free_spec h0 hf) hr' hy
     (IE hs hT l (k + 1) _ _ (by omega) (fun j hj => by have := hl (j + 1) (by simp; omega); simpa [Nat.add_assoc, Nat.add_comm 1 j] using this) (hdn.set hr') (fun j hj => ?_) (by simpa using hz) hB' ?_)
   · by_cases hjk : j = k
     · subst hjk
       have : j < listed.size := by omega
       simp [Array.getD_eq_getD_getElem?, this]
     · exact getD_set_true (hA j (by omega))
   · rw [List.range'_succ, List.foldl_cons] at hK
     exact hK
def F7 (md : Region.Mode) (ops : Array Oper) (n : Nat) : Bool :=
 Region.noSelect ops && I7 md ops n && decide (n ≤ ops.size) && Kg md ops n 0 (Array.replicate ops.size false)
theorem FK {id n m : Nat} {l t : List Oper} {listed : Array Bool} {Q : Exit → Act → World → Prop} {a : Act} {w : World} (hm : P.follows .mixedOrders = true)
   (hB : F7 .any (l ++ t).toArray n = true) (hn : l.length = n) (ht : t.length = m)
   (hL : (List.range' 0 n).foldl (fun s i => s.setIfInBounds i true) (Array.replicate (n + m) false) = listed) (hC : C { w with drawn := w.drawn + 1 })
   (h : wpQuiet P (l ++ t).toArray C (fun a' => ∀ w', C w' → wpAny P .any (l ++ t).toArray Q m listed a' w') l a) : (Code.region id (l ++ t).toArray true).wp P Q a w := by
 simp only [F7, Bool.and_eq_true, decide_eq_true_eq] at hB
 obtain ⟨⟨⟨hs, hT⟩, hz⟩, hlx⟩ := hB
 refine wp_region_any hm ?_
 have hsz : (l ++ t).toArray.size = n + m := by simp [hn, ht]
 rw [hsz]
 rw [hsz] at hlx
 refine IF (n := n) (Q := fun L a' => ∀ w', C w' → wpAny P .any (l ++ t).toArray Q m L a' w') (fun _ _ w' hw' h => h w' hw') n _ _ _ hC ?_
 rw [← hn] at hlx hT ⊢
 refine IE hs hT l 0 _ _ (by omega) (fun j hj => ?_) (fun j hj => ?_) (fun j hj => absurd hj (by omega)) (by simp) hlx ?_
 · simp [List.getElem?_append_left hj]
 · simp only [Array.getD_eq_getD_getElem?, Array.getElem?_replicate] at hj
   split at hj <;> simp at hj
 · rw [hn, hL]; exact h
theorem Bg {id : Nat} (n m : Nat) {l r : List Oper} (listed : Array Bool) {Q : Exit → Act → World → Prop} {a : Act} {w : World} (C : World → Prop) (hm : P.follows .mixedOrders = true)
   (hl : r.take n = l) (hB : F7 .any r.toArray n = true) (hn : r.length = n + m)
   (hL : (List.range' 0 n).foldl (fun s i => s.setIfInBounds i true) (Array.replicate (n + m) false) = listed) (hC : C { w with drawn := w.drawn + 1 })
   (h : wpQuiet P r.toArray C (fun a' => ∀ w', C w' → wpAny P .any r.toArray Q m listed a' w') l a) : (Code.region id r.toArray true).wp P Q a w := by
 have e : r.toArray = (l ++ r.drop n).toArray := by rw [← hl, List.take_append_drop]
 rw [e] at hB h ⊢
 refine FK (n := n) (m := m) hm hB ?_ ?_ hL hC h
 · rw [← hl, List.length_take]; omega
 · rw [List.length_drop]; omega
theorem Bl {Q : Exit → Act → World → Prop} {fuel : Nat} {listed : Array Bool} {a : Act} {w : World} (i : Nat) (o : Oper) (hr : Region.ready md ops listed = [i]) (ho : ops[i]? = some o) (hw : Region.wanted o (yielded ops a.tmps) = true)
  (h : ∀ K : Act → World → Prop, (∀ a w, wpAny P md ops Q fuel (listed.setIfInBounds i true) a w → K a w) → o.wp P a w K Q) : wpAny P md ops Q (fuel + 1) listed a w := by
 refine ⟨fun h0 => (by rw [hr] at h0; cases h0), fun j hj => ?_⟩
 rw [hr, List.mem_singleton] at hj
 subst hj
 unfold wpOp
 rw [ho]
 simp only [hw, if_true]
 exact .inl (h _ fun _ _ h => h)
theorem Dh {Q : Exit → Act → World → Prop} {listed : Array Bool} {a : Act} {w : World} (hr : Region.ready md ops listed = []) (h : Q .normal a w) : wpAny P md ops Q 0 listed a w := ⟨hr, h⟩
end
/- What the functions of package value come to, Cp trees. No program in sight. -/
mutual
def VT.size : VT → Nat
 | .mk _ _ _ _ l f => 1 + l.size + f.size
def VL.size : VL → Nat
 | .nil => 0
 | .cons t r => t.size + r.size
def FL.size : FL → Nat
 | .nil => 0
 | .cons _ t r => t.size + r.size
end
theorem VL.get?_size : ∀ (l : VL) (i : Nat) (t : VT), l.get? i = some t → t.size ≤ l.size
 | .nil, _, _, h => by simp [VL.get?] at h
 | .cons t r, 0, t', h => by simp [VL.get?] at h; subst h; unfold VL.size; omega
 | .cons t r, i + 1, t', h => by
   have := VL.get?_size r i t' (by simpa [VL.get?] using h)
   unfold VL.size; omega
theorem FL.get?_size : ∀ (l : FL) (i : Nat) (s : ByteArray) (t : VT), l.get? i = some (s, t) → t.size ≤ l.size
 | .nil, _, _, _, h => by simp [FL.get?] at h
 | .cons s t r, 0, s', t', h => by simp [FL.get?] at h; obtain ⟨_, rfl⟩ := h; unfold FL.size; omega
 | .cons s t r, i + 1, s', t', h => by
   have := FL.get?_size r i s' t' (by simpa [FL.get?] using h)
   unfold FL.size; omega
def VL.drop : VL → Nat → VL
 | l, 0 => l
 | .nil, _ + 1 => .nil
 | .cons _ r, i + 1 => r.drop i
def FL.drop : FL → Nat → FL
 | l, 0 => l
 | .nil, _ + 1 => .nil
 | .cons _ _ r, i + 1 => r.drop i
theorem VL.drop_step : ∀ (l : VL) (i : Nat) (t : VT), l.get? i = some t → l.drop i = .cons t (l.drop (i + 1))
 | .nil, _, _, h => by simp [VL.get?] at h
 | .cons t r, 0, t', h => by simp [VL.get?] at h; subst h; simp [VL.drop]
 | .cons t r, i + 1, t', h => by
   have := VL.drop_step r i t' (by simpa [VL.get?] using h)
   simpa [VL.drop] using this
theorem FL.drop_step : ∀ (l : FL) (i : Nat) (s : ByteArray) (t : VT), l.get? i = some (s, t) → l.drop i = .cons s t (l.drop (i + 1))
 | .nil, _, _, _, h => by simp [FL.get?] at h
 | .cons s t r, 0, s', t', h => by simp [FL.get?] at h; obtain ⟨rfl, rfl⟩ := h; simp [FL.drop]
 | .cons s t r, i + 1, s', t', h => by
   have := FL.drop_step r i s' t' (by simpa [FL.get?] using h)
   simpa [FL.drop] using this
theorem VL.drop_len : ∀ (l : VL) (i : Nat), l.len ≤ i → l.drop i = .nil
 | .nil, 0, _ => rfl
 | .nil, _ + 1, _ => rfl
 | .cons t r, 0, h => by simp [VL.len] at h
 | .cons t r, i + 1, h => VL.drop_len r i (by simp only [VL.len] at h; omega)
theorem FL.drop_len : ∀ (l : FL) (i : Nat), l.len ≤ i → l.drop i = .nil
 | .nil, 0, _ => rfl
 | .nil, _ + 1, _ => rfl
 | .cons s t r, 0, h => by simp [FL.len] at h
 | .cons s t r, i + 1, h => FL.drop_len r i (by simp only [FL.len] at h; omega)
def Fk (k : Int) (b : Bool) (n : Int) (s : ByteArray) (ll fl : Nat) : Bool :=
 DR k b n s ll fl k (if k = 1 then b else false) (if k = 2 then n else 0) (if k = 3 ∨ k = 4 then s else ⟨#[]⟩) (if k = 5 then ll else 0) (if k = 6 then fl else 0)
def CL (s : ByteArray) : Int := if s.size = 0 ∨ 1024 < s.size then 4 else if Lib.validD s.data.toList then 0 else 9
def CW (k : Int) (b : Bool) (n : Int) (s : ByteArray) (ll fl : Nat) (d : Int) : Int :=
 AR [Br (decide (k < 7) && Fk k b n s ll fl) 5, Br (decide (s.size ≤ 1024)) 4, Br (decide (k ≠ 3) || Lib.validD s.data.toList) 9, Br (decide (max ll fl ≤ 64)) 3, Br (!(decide (k = 5) || decide (k = 6)) || decide (d < 6)) 10]
mutual
def Ao : VT → Int → Int
 | .mk k b n s l f, d => if CW k b n s l.len f.len d ≠ 0 then CW k b n s l.len f.len d else if BH l (d + 1) ≠ 0 then BH l (d + 1) else Cu ⟨#[]⟩ f (d + 1)
def BH : VL → Int → Int
 | .nil, _ => 0
 | .cons t r, d => if Ao t d ≠ 0 then Ao t d else BH r d
def Cu : ByteArray → FL → Int → Int
 | _, .nil, _ => 0
 | last, .cons s t r, d => if AR [CL s, Br (Op.bytesLess last.toList s.toList) 18] ≠ 0 then AR [CL s, Br (Op.bytesLess last.toList s.toList) 18] else if Ao t d ≠ 0 then Ao t d else Cu s r d
end
end Go.Proofs.YtbemgcjckchdjaaGreatDoor
