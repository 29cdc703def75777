import Derived.Test.YtbemgcjckchdjaaGreatDoorLVa
import Derived.Test.YtbemgcjckchdjaaGreatDoorLShelf
import Derived.Deep.RegionHeld3
import Derived.Deep.DeepCutAuto
import Derived.Deep.CutBlock
/- value.name: why a text may not be a field's name. -/
namespace Go.Proofs.YtbemgcjckchdjaaGreatDoor
open Go.RowKit
set_option linter.unusedSimpArgs false
set_option linter.unusedVariables false
def Tabs (w : World) : Prop := Lib.Utf8Tabs 0 1 w
set_option maxHeartbeats 400000 in
theorem PC (s : ByteArray) (w : World) (hs : s.size ≤ LIM) (hT : Tabs w) :
   Calls Tryz.prog 55 #[.string s] w fun x w' => x = .returned (.int .i64 (CL s)) ∧ Below w.heap.size w w' := by
 have hs2 : s.size ≤ 1048576 := hs
 by_cases h0 : s.size = 0
 · have e0 : s.toList = [] := by rw [ByteArray.toList_eq]; exact List.eq_nil_of_length_eq_zero (by simpa using h0)
   have r : CL s = 4 := by unfold CL; rw [if_pos (Or.inl h0)]
   rw [r]
   clear r
   go_enter Tryz.func55, Tryz.ntmps55
   go_wp2
   go_ret
   exact ⟨rfl, Below.refl _ _⟩
 have e0 : s.toList.isEmpty = false := by
   rw [ByteArray.toList_eq]
   cases h : s.data.toList with
   | nil => exact absurd (by simpa using congrArg List.length h) h0
   | cons a b => rfl
 have e0' : (s.toList == []) = false := by
   cases h : s.toList with
   | nil => rw [h] at e0; simp at e0
   | cons a b => rfl
 by_cases h1 : 1024 < s.size
 · have r : CL s = 4 := by unfold CL; rw [if_pos (Or.inr h1)]
   have e1 : (1024 : Int) < (s.size : Int) := by omega
   rw [r]
   clear r
   go_enter Tryz.func55, Tryz.ntmps55
   go_wp2
   go_ret
   exact ⟨rfl, Below.refl _ _⟩
 have e1 : ¬ (1024 : Int) < (s.size : Int) := by omega
 have V := Tryz.utf8_ValidString s w (by omega) hT
 have r : CL s = if Lib.validD s.data.toList then 0 else 9 := by unfold CL; rw [if_neg (by omega)]
 rw [r]
 clear r
 cases hv : Lib.validD s.data.toList with
 | true =>
   rw [hv] at V
   have V' := Lib.hid V
   clear V hv
   go_enter Tryz.func55, Tryz.ntmps55
   go_wp2_with fail
   refine V'.out.mono ?_
   rintro e w1 ⟨rfl, hb⟩
   go_wp2
   go_ret
   exact ⟨rfl, hb⟩
 | false =>
   rw [hv] at V
   have V' := Lib.hid V
   clear V hv
   go_enter Tryz.func55, Tryz.ntmps55
   go_wp2_with fail
   refine V'.out.mono ?_
   rintro e w1 ⟨rfl, hb⟩
   go_wp2
   go_ret
   exact ⟨rfl, hb⟩
/- value.check: the five checks of one node (one statement, whose order is open). -/
theorem Ab (w : World) (o : Obj) : (w.alloc o).heap[w.heap.size]? = some o := by
 show (w.heap.push o)[w.heap.size]? = _
 simp
theorem Ac {W w' : World} {b o : Nat} {v : Value} (hb : Below W.heap.size W w') (h : W.cell? ⟨b, o, none⟩ = some v) : w'.cell? ⟨b, o, none⟩ = some v := by
 have hlt : b < W.heap.size := by
  rcases Nat.lt_or_ge b W.heap.size with h' | h'
  · exact h'
  · simp [World.cell?, Array.getElem?_eq_none h'] at h
 exact (hb.cell (p := ⟨b, o, none⟩) hlt).trans h
theorem Aa {B : Nat} {a w w1 : World} (h : Below B a w) (hp : B ≤ w.heap.size) (hb : Below w.heap.size w w1) : Below B a w1 :=
 h.trans (hb.mono hp)
theorem Tabs.below {w w' : World} (h : Tabs w) (hb : Below w.heap.size w w') : Tabs w' :=
 Go.Proofs.Utf8Tabs_below h hb
theorem Tabs.drew {w : World} (h : Tabs w) : Tabs w.drew := Tabs.below h (Below.refl w.heap.size w).drew
theorem NG (k : Int) (b : Bool) (n : Int) (s : ByteArray) (a1 : Option Addr) (l1 c1 : Nat) (a2 : Option Addr) (l2 c2 : Nat) (w : World) :
  Calls Tryz.prog 25 #[.agg #[.int .u8 k, .bool b, .int .i64 n, .string s, .slice a1 l1 c1, .slice a2 l2 c2], G8 k b n s (.slice a1 l1 c1) (.slice a2 l2 c2)] w fun x w' => x = .returned (.bool (Fk k b n s l1 l2)) ∧ Below w.heap.size w w' := by
 have e : G8 k b n s (.slice a1 l1 c1) (.slice a2 l2 c2) = .agg #[.int .u8 k, .bool (if k = 1 then b else false), .int .i64 (if k = 2 then n else 0), .string (if k = 3 ∨ k = 4 then s else ⟨#[]⟩), .slice (if k = 5 then a1 else none) (if k = 5 then l1 else 0) (if k = 5 then c1 else 0), .slice (if k = 6 then a2 else none) (if k = 6 then l2 else 0) (if k = 6 then c2 else 0)] := by
  unfold G8
  by_cases h5 : k = 5
  · simp [h5]
  · by_cases h6 : k = 6
    · simp [h6]
    · simp [h5, h6]
 rw [e]
 unfold Fk
 exact KA _ _ _ _ _ _ _ _ _ _ _ _ _ _ _ _ _ _ _ _ _
theorem Sp (z0 z1 z2 z3 z4 : Int) (T : TypeId) (w : World) :
  Calls Tryz.prog 52 #[.slice (some ⟨w.heap.size, 0, none⟩) 5 5] (w.alloc (.cells #[.int .i64 z0, .int .i64 z1, .int .i64 z2, .int .i64 z3, .int .i64 z4] T)) fun x w' => x = .returned (.int .i64 (AR [z0, z1, z2, z3, z4])) ∧ w.alloc (.cells #[.int .i64 z0, .int .i64 z1, .int .i64 z2, .int .i64 z3, .int .i64 z4] T) = w' := by
 have h := Ab w (.cells #[.int .i64 z0, .int .i64 z1, .int .i64 z2, .int .i64 z3, .int .i64 z4] T)
 refine Jz w.heap.size [z0, z1, z2, z3, z4] 5 _ (by simp) fun i hi => ?_
 obtain rfl | rfl | rfl | rfl | rfl : i = 0 ∨ i = 1 ∨ i = 2 ∨ i = 3 ∨ i = 4 := by simp at hi; omega
 all_goals (unfold World.cell?; rw [h]; rfl)
theorem So (z0 z1 : Int) (T : TypeId) (w : World) :
  Calls Tryz.prog 52 #[.slice (some ⟨w.heap.size, 0, none⟩) 2 2] (w.alloc (.cells #[.int .i64 z0, .int .i64 z1] T)) fun x w' => x = .returned (.int .i64 (AR [z0, z1])) ∧ w.alloc (.cells #[.int .i64 z0, .int .i64 z1] T) = w' := by
 have h := Ab w (.cells #[.int .i64 z0, .int .i64 z1] T)
 refine Jz w.heap.size [z0, z1] 2 _ (by simp) fun i hi => ?_
 obtain rfl | rfl : i = 0 ∨ i = 1 := by simp at hi; omega
 all_goals (unfold World.cell?; rw [h]; rfl)
theorem CS (z : Int) (r : List Int) (h : AR (z :: r) = 0) : z = 0 ∧ AR r = 0 := by
 unfold AR at h
 split at h
 · exact ⟨by assumption, h⟩
 · contradiction
theorem IA {b : Bool} {e : Int} (he : e ≠ 0) (h : Br b e = 0) : b = true := by
 unfold Br at h
 split at h
 · assumption
 · contradiction
theorem Rf {k : Int} {b : Bool} {n : Int} {s : ByteArray} {ll fl : Nat} {d : Int} (h : CW k b n s ll fl d = 0) : (ll ≠ 0 → d < 6) ∧ (fl ≠ 0 → d < 6) := by
 unfold CW at h
 obtain ⟨h1, h⟩ := CS _ _ h
 obtain ⟨h2, h⟩ := CS _ _ h
 obtain ⟨h3, h⟩ := CS _ _ h
 obtain ⟨h4, h⟩ := CS _ _ h
 obtain ⟨h5, h⟩ := CS _ _ h
 have g1 := IA (by decide) h1
 have g5 := IA (by decide) h5
 simp only [Fk, DR, Bool.and_eq_true, beq_iff_eq] at g1
 simp only [Bool.or_eq_true, Bool.not_eq_true', Bool.or_eq_false_iff, decide_eq_false_iff_not, decide_eq_true_eq] at g5
 obtain ⟨_, _, _, _, _, e1, e2⟩ := g1
 constructor
 · intro hl
   rcases g5 with g5 | g5
   · rw [if_neg g5.1] at e1; exact absurd e1 hl
   · exact g5
 · intro hl
   rcases g5 with g5 | g5
   · rw [if_neg g5.2] at e2; exact absurd e2 hl
   · exact g5
abbrev QK (N : Nat) : Prop := ∀ t : VT, t.size < N → ∀ (w : World) (cs : List Value) (lo hi : Nat) (d : Int), RV w lo hi t cs → hi ≤ w.heap.size → Tabs w → 0 ≤ d → d ≤ 6 →
 Calls Tryz.prog 36 #[.agg cs.toArray, .int .i64 d] w fun x w' => x = .returned (.int .i64 (Ao t d)) ∧ Below w.heap.size w w'
def BoxV (w : World) (g : Nat) (k : Int) (b : Bool) (n : Int) (s : ByteArray) (a1 : Option Addr) (l1 x1 : Nat) (a2 : Option Addr) (l2 x2 : Nat) : Prop :=
 w.cell? ⟨g, 0, none⟩ = some (.int .u8 k) ∧ w.cell? ⟨g, 1, none⟩ = some (.bool b) ∧ w.cell? ⟨g, 2, none⟩ = some (.int .i64 n) ∧ w.cell? ⟨g, 3, none⟩ = some (.string s) ∧ w.cell? ⟨g, 4, none⟩ = some (.slice a1 l1 x1) ∧ w.cell? ⟨g, 5, none⟩ = some (.slice a2 l2 x2)
theorem BoxV.keep {w w' : World} {g : Nat} {k : Int} {b : Bool} {n : Int} {s : ByteArray} {a1 : Option Addr} {l1 x1 : Nat} {a2 : Option Addr} {l2 x2 : Nat} (h : BoxV w g k b n s a1 l1 x1 a2 l2 x2) (hb : Below w.heap.size w w') : BoxV w' g k b n s a1 l1 x1 a2 l2 x2 :=
 ⟨Ac hb h.1, Ac hb h.2.1, Ac hb h.2.2.1, Ac hb h.2.2.2.1, Ac hb h.2.2.2.2.1, Ac hb h.2.2.2.2.2⟩
theorem VL.drop_zero (l : VL) : l.drop 0 = l := by cases l <;> rfl
theorem FL.drop_zero (l : FL) : l.drop 0 = l := by cases l <;> rfl
theorem Bc {a b : Int} {k : IntKind} (h : a = b) : Ending.returned (.int k a) = .returned (.int k b) := by rw [h]
theorem RV.open6 {w : World} {lo hi : Nat} {t : VT} {v0 v1 v2 v3 v4 v5 : Value} (h : RV w lo hi t [v0, v1, v2, v3, v4, v5]) :
   ∃ (k : Int) (b : Bool) (n : Int) (s : ByteArray) (a1 : Option Addr) (l1 c1 : Nat) (a2 : Option Addr) (l2 c2 : Nat), v0 = .int .u8 k ∧ v1 = .bool b ∧ v2 = .int .i64 n ∧ v3 = .string s ∧ v4 = .slice a1 l1 c1 ∧ v5 = .slice a2 l2 c2 := by
 cases t with
 | mk k b n s l f =>
   unfold RV at h
   obtain ⟨a1, c1, a2, c2, e, _⟩ := h
   simp only [List.cons.injEq, and_true] at e
   exact ⟨k, b, n, s, a1, _, c1, a2, _, c2, e.1, e.2.1, e.2.2.1, e.2.2.2.1, e.2.2.2.2.1, e.2.2.2.2.2⟩
theorem Ky {w : World} {b : Nat} {a0 a1 a2 a3 a4 a5 a6 : Value} {T : TypeId} (h : w.heap[b]? = some (.cells #[a0, a1, a2, a3, a4, a5, a6] T (0, 0))) :
  w.cell? ⟨b, 0, none⟩ = some a0 ∧ w.cell? ⟨b, 1, none⟩ = some a1 ∧ w.cell? ⟨b, 2, none⟩ = some a2 ∧ w.cell? ⟨b, 3, none⟩ = some a3 ∧ w.cell? ⟨b, 4, none⟩ = some a4 ∧ w.cell? ⟨b, 5, none⟩ = some a5 ∧ w.cell? ⟨b, 6, none⟩ = some a6 ∧ (∀ o, w.frozen? ⟨b, o, none⟩ = false) := by
 simp [World.cell?, World.frozen?, h]
theorem FO : ∀ (a b : List UInt8), (!(Op.bytesLess a b || a == b)) = Op.bytesLess b a
 | [], [] => rfl
 | [], _ :: _ => rfl
 | _ :: _, [] => rfl
 | x :: a, y :: b => by
   have ih := FO a b
   simp only [Op.bytesLess, List.cons_beq_cons]
   rcases Nat.lt_trichotomy x.toNat y.toNat with h | h | h
   · have h1 : x < y := h
     have h2 : ¬ y < x := by rw [UInt8.lt_iff_toNat_lt]; omega
     have h3 : ¬ y = x := by rintro rfl; omega
     simp [h1, h2, h3]
   · have h1 : x = y := UInt8.toNat_inj.1 h
     subst h1
     have h2 : ¬ x < x := by rw [UInt8.lt_iff_toNat_lt]; omega
     simp [h2] at ih ⊢
     rw [← ih]
   · have h1 : y < x := h
     have h2 : ¬ x < y := by rw [UInt8.lt_iff_toNat_lt]; omega
     have h3 : ¬ x = y := by rintro rfl; omega
     simp [h1, h2, h3]
theorem IP (a b : List UInt8) : (!Op.bytesLess a b && !a == b) = Op.bytesLess b a := by rw [← FO a b, Bool.not_or]
theorem Re {k : Int} {b : Bool} {n : Int} {s : ByteArray} {ll fl : Nat} {d : Int} {u1 u3 u5 : Bool} (h1 : (decide (k < 7) && Fk k b n s ll fl) = u1) (h3 : (decide (k ≠ 3) || Lib.validD s.data.toList) = u3) (h5 : (!(decide (k = 5) || decide (k = 6)) || decide (d < 6)) = u5) :
  AR [Br u1 5, Br (decide ((s.size : Int) ≤ 1024)) 4, Br u3 9, Br (decide (max (ll : Int) (fl : Int) ≤ 64)) 3, Br u5 10] = CW k b n s ll fl d := by
 have e2 : decide ((s.size : Int) ≤ 1024) = decide (s.size ≤ 1024) := decide_eq_decide.2 (by omega)
 have e4 : decide (max (ll : Int) (fl : Int) ≤ 64) = decide (max ll fl ≤ 64) := decide_eq_decide.2 (by omega)
 unfold CW
 rw [h1, h3, h5, e2, e4]
theorem P5 (k d : Int) (sh vd : Bool) : ∃ (b3 n3 b5 b6 b7 u1 u3 u5 : Bool), (k == 3) = b3 ∧ (k != 3) = n3 ∧ (k == 5) = b5 ∧ (k == 6) = b6 ∧ decide (k < 7) = b7 ∧ (decide (k < 7) && sh) = u1 ∧ (decide (k ≠ 3) || vd) = u3 ∧ (!(decide (k = 5) || decide (k = 6)) || decide (d < 6)) = u5 ∧
   ((b3 = false ∧ n3 = true ∧ b5 = false ∧ b6 = false ∧ b7 = true ∧ u1 = sh ∧ u3 = true ∧ u5 = true) ∨ (b3 = false ∧ n3 = true ∧ b5 = false ∧ b6 = false ∧ b7 = false ∧ u1 = false ∧ u3 = true ∧ u5 = true) ∨
   (b3 = true ∧ n3 = false ∧ b5 = false ∧ b6 = false ∧ b7 = true ∧ u1 = sh ∧ u3 = vd ∧ u5 = true) ∨ (b3 = false ∧ n3 = true ∧ b5 = true ∧ b6 = false ∧ b7 = true ∧ u1 = sh ∧ u3 = true ∧ u5 = decide (d < 6)) ∨
   (b3 = false ∧ n3 = true ∧ b5 = false ∧ b6 = true ∧ b7 = true ∧ u1 = sh ∧ u3 = true ∧ u5 = decide (d < 6))) := by
 refine ⟨_, _, _, _, _, _, _, _, rfl, rfl, rfl, rfl, rfl, rfl, rfl, rfl, ?_⟩
 by_cases e3 : k = 3
 · subst e3; exact Or.inr (Or.inr (Or.inl ⟨rfl, rfl, rfl, rfl, rfl, rfl, rfl, rfl⟩))
 by_cases e5 : k = 5
 · subst e5; exact Or.inr (Or.inr (Or.inr (Or.inl ⟨rfl, rfl, rfl, rfl, rfl, rfl, rfl, rfl⟩)))
 by_cases e6 : k = 6
 · subst e6; exact Or.inr (Or.inr (Or.inr (Or.inr ⟨rfl, rfl, rfl, rfl, rfl, rfl, rfl, rfl⟩)))
 by_cases e7 : k < 7
 · exact Or.inl (by simp [e3, e5, e6, e7])
 · exact Or.inr (Or.inl (by simp [e3, e5, e6, e7]))
set_option maxHeartbeats 4000000 in
set_option maxRecDepth 100000 in
theorem M6 (N : Nat) (IH : QK N) (w : World) (k : Int) (b : Bool) (n : Int) (s : ByteArray) (l : VL) (f : FL) (a1 : Option Addr) (x1 : Nat) (a2 : Option Addr) (x2 : Nat) (d : Int) (lo hi : Nat) (hN : 1 + l.size + f.size ≤ N) (hk : 0 ≤ k) (hs : s.size ≤ LIM) (hTb : Tabs w) (hd0 : 0 ≤ d) (hd6 : d ≤ 6) (hll : l.len ≤ LIM) (hfl : f.len ≤ LIM) (hhi : hi ≤ w.heap.size)
  (hl : l.len = 0 ∨ ∃ b o, a1 = some ⟨b, o, none⟩ ∧ lo ≤ b ∧ b < hi ∧ RL w lo hi l b o) (hf : f.len = 0 ∨ ∃ b o, a2 = some ⟨b, o, none⟩ ∧ lo ≤ b ∧ b < hi ∧ RF w lo hi f b o) :
  Calls Tryz.prog 36 #[.agg #[.int .u8 k, .bool b, .int .i64 n, .string s, .slice a1 l.len x1, .slice a2 f.len x2], .int .i64 d] w fun x w' => x = .returned (.int .i64 (Ao (.mk k b n s l f) d)) ∧ Below w.heap.size w w' := by
 unfold LIM at hll hfl
 have HIH := Lib.hid IH
 clear IH
 have hs2 : s.size ≤ 1048576 := hs
 obtain ⟨sh, hsh⟩ : ∃ q, Fk k b n s l.len f.len = q := ⟨_, rfl⟩
 obtain ⟨vd, hvd⟩ : ∃ q, Lib.validD s.data.toList = q := ⟨_, rfl⟩
 have FL1 := NG k b n s a1 l.len x1 a2 f.len x2
 rw [hsh] at FL1
 have BA := fun w => Pi k b n s a1 l.len x1 a2 f.len x2 w hk
 have VA := fun w h => Tryz.utf8_ValidString s w (by omega) h
 rw [hvd] at VA
 have H1 := Lib.hid FL1; have H2 := Lib.hid BA; have H3 := Lib.hid VA; have H4 := Lib.hid hsh; have H5 := Lib.hid hvd
 clear FL1 BA VA hsh hvd
 obtain ⟨b3, n3, b5, b6, b7, u1, u3, u5, f3, f3n, f5, f6, f7, g1, g3, g5, hk8⟩ := P5 k d sh vd
 have HE := Lib.hid (And.intro g1 (And.intro g3 g5))
 clear g1 g3 g5
 rcases hk8 with ⟨rfl, rfl, rfl, rfl, rfl, rfl, rfl, rfl⟩ | ⟨rfl, rfl, rfl, rfl, rfl, rfl, rfl, rfl⟩ | ⟨rfl, rfl, rfl, rfl, rfl, rfl, rfl, rfl⟩ | ⟨rfl, rfl, rfl, rfl, rfl, rfl, rfl, rfl⟩ | ⟨rfl, rfl, rfl, rfl, rfl, rfl, rfl, rfl⟩
 all_goals
  go_enter Tryz.func36, Tryz.ntmps36
  go_wp2_with fail
  have hT := Ab w (.cells #[.int .u8 k, .bool b, .int .i64 n, .string s, .slice a1 l.len x1, .slice a2 f.len x2] 27)
  have hD := (Below.refl w.heap.size w).alloc (Nat.le_refl _) (.cells #[.int .u8 k, .bool b, .int .i64 n, .string s, .slice a1 l.len x1, .slice a2 f.len x2] 27)
  have lT := lt_of_block hT
  obtain ⟨t0, t1, t2, t3, t4, t5, t6⟩ := Ae hT
  replace hTb := Tabs.below hTb hD
  generalize w.alloc (.cells #[.int .u8 k, .bool b, .int .i64 n, .string s, .slice a1 l.len x1, .slice a2 f.len x2] 27) = W at *
  clear hT
  go_cut [6] (fun s6 wx => s6 = .int .i64 (CW k b n s l.len f.len d) ∧ Below w.heap.size w wx ∧ Tabs wx ∧ wx.cell? ⟨w.heap.size, 0, none⟩ = some (.int .u8 k) ∧ wx.cell? ⟨w.heap.size, 1, none⟩ = some (.bool b) ∧ wx.cell? ⟨w.heap.size, 2, none⟩ = some (.int .i64 n) ∧ wx.cell? ⟨w.heap.size, 3, none⟩ = some (.string s) ∧ wx.cell? ⟨w.heap.size, 4, none⟩ = some (.slice a1 l.len x1) ∧ wx.cell? ⟨w.heap.size, 5, none⟩ = some (.slice a2 f.len x2))
  case first =>
   refine Bg 40 3 #[true, true, true, true, true, true, true, true, true, true, true, true, true, true, true, true, true, true, true, true, true, true, true, true, true, true, true, true, true, true, true, true, true, true, true, true, true, true, true, true, false, false, false] (fun w' => w'.cell? ⟨w.heap.size, 0, none⟩ = some (.int .u8 k) ∧ w'.cell? ⟨w.heap.size, 1, none⟩ = some (.bool b) ∧ w'.cell? ⟨w.heap.size, 2, none⟩ = some (.int .i64 n) ∧ w'.cell? ⟨w.heap.size, 3, none⟩ = some (.string s) ∧ w'.cell? ⟨w.heap.size, 4, none⟩ = some (.slice a1 l.len x1) ∧ w'.cell? ⟨w.heap.size, 5, none⟩ = some (.slice a2 f.len x2) ∧ Below w.heap.size w w' ∧ Tabs w' ∧ w.heap.size < w'.heap.size) (by kernel_rfl) (by simp only [List.take_succ_cons, List.take_zero]; rfl) (by kernel_rfl) (by kernel_rfl) (by kernel_rfl) ?_ ?_
   · exact ⟨t0, t1, t2, t3, t4, t5, hD.drew, Tabs.drew hTb, lT⟩
   repeat
     first
     | go_big_quiet_skip
     | go_big_quiet_want
       apply Exists.intro
       refine ⟨fun wq hC => ?_, ?_⟩
       · obtain ⟨q0, q1, q2, q3, q4, q5, q6, q7, q8⟩ := hC
         unfold Oper.quietAt
         go_simp
         first
         | rfl
         | exact ⟨rfl, rfl⟩
         | (go_at_call 53; refine (IB _ _ _).mono ?_; rintro e w7 ⟨rfl, rfl⟩; with_reducible exact ⟨rfl, q0, q1, q2, q3, q4, q5, q6, q7, q8⟩)
         | (go_at_call 54; refine (H2.out _).mono ?_; rintro e w8 ⟨rfl, hb⟩; with_reducible exact ⟨rfl, ⟨Ac hb q0, Ac hb q1, Ac hb q2, Ac hb q3, Ac hb q4, Ac hb q5, Aa q6 q6.size hb, Tabs.below q7 hb, Nat.lt_of_lt_of_le q8 hb.size⟩⟩)
         | (go_at_call 25; refine (H1.out _).mono ?_; rintro e w9 ⟨rfl, hb⟩; with_reducible exact ⟨rfl, ⟨Ac hb q0, Ac hb q1, Ac hb q2, Ac hb q3, Ac hb q4, Ac hb q5, Aa q6 q6.size hb, Tabs.below q7 hb, Nat.lt_of_lt_of_le q8 hb.size⟩⟩)
         | (go_at_call 38; refine (H3.out _ q7).mono ?_; rintro e w9 ⟨rfl, hb⟩; with_reducible exact ⟨rfl, ⟨Ac hb q0, Ac hb q1, Ac hb q2, Ac hb q3, Ac hb q4, Ac hb q5, Aa q6 q6.size hb, Tabs.below q7 hb, Nat.lt_of_lt_of_le q8 hb.size⟩⟩)
       (try simp only [Act.put, List.setIfInBounds_toArray, List.set_cons_zero, List.set_cons_succ])
       go_big_quiet_on
   refine wpQuiet_nil ?_
   rintro wy ⟨q0, q1, q2, q3, q4, q5, q6, q7, q8⟩
   refine Bl 40 _ (by kernel_rfl) (by rfl) (by rfl) (fun K hK => ?_)
   go_simp
   refine hK _ _ ?_
   clear hK K
   refine Bl 41 _ (by kernel_rfl) (by rfl) (by rfl) (fun K hK => ?_)
   go_simp
   refine (Sp _ _ _ _ _ _ _).mono ?_
   rintro e w9 ⟨rfl, rfl⟩
   refine hK _ _ ?_
   clear hK K
   refine Bl 42 _ (by kernel_rfl) (by rfl) (by rfl) (fun K hK => ?_)
   go_simp
   refine hK _ _ ?_
   clear hK K
   refine Dh (by kernel_rfl) ?_
   go_wp2_with fail
   go_meet
   have hb := fun o => (Below.refl wy.heap.size wy).alloc (Nat.le_refl _) o
   refine ⟨?_, Aa q6 q6.size (hb _), Tabs.below q7 (hb _), Ac (hb _) q0, Ac (hb _) q1, Ac (hb _) q2, Ac (hb _) q3, Ac (hb _) q4, Ac (hb _) q5⟩
   exact congrArg (Value.int .i64) (Re (by rw [H4.out]; exact HE.out.1) (by rw [H5.out]; exact HE.out.2.1) HE.out.2.2)
  case rest =>
   obtain ⟨rfl, hx, hTx, p0, p1, p2, p3, p4, p5⟩ := hcut
   obtain ⟨h, hh⟩ : ∃ h, CW k b n s l.len f.len d = h := ⟨_, rfl⟩
   have hok : h = 0 → (l.len ≠ 0 → d < 6) ∧ (f.len ≠ 0 → d < 6) := fun e => Rf (hh.trans e)
   have hfin : Ao (.mk k b n s l f) d = if h ≠ 0 then h else if BH l (d + 1) ≠ 0 then BH l (d + 1) else Cu ⟨#[]⟩ f (d + 1) := by rw [Ao, hh]
   rw [hh]
   have HH := Lib.hid hh; have HOK := Lib.hid hok; have HFIN := Lib.hid hfin
   clear hh hok hfin H1 H2 H3 H4 H5
   have hB : BoxV wc w.heap.size k b n s a1 l.len x1 a2 f.len x2 := ⟨p0, p1, p2, p3, p4, p5⟩
   obtain ⟨r1, hr1⟩ : ∃ r, (if h ≠ 0 then h else BH l (d + 1)) = r := ⟨_, rfl⟩
   have HR1 := Lib.hid hr1
   have HZ : Hid (r1 = 0 → h = 0 ∧ BH l (d + 1) = 0) := Lib.hid (fun e => by
     rw [← hr1] at e
     by_cases h0 : h = 0
     · rw [if_neg (by simpa using h0)] at e; exact ⟨h0, e⟩
     · rw [if_pos h0] at e; exact absurd e h0)
   clear hr1 p0 p1 p2 p3 p4 p5
   go_upto_block 0 with (fail)
   go_cut [6] (fun s6 wx => s6 = .int .i64 r1 ∧ Below w.heap.size w wx ∧ Tabs wx ∧ BoxV wx w.heap.size k b n s a1 l.len x1 a2 f.len x2)
   case first =>
     go_wp2_with fail
     go_loopw [6, 7] (fun s6 s7 wr => ∃ (z : Int) (i : Nat), s6 = .int .i64 z ∧ s7 = .int .i64 i ∧ i ≤ l.len ∧ Hid ((if z ≠ 0 then z else BH (l.drop i) (d + 1)) = r1) ∧ Hid (z = 0 → h = 0) ∧ Below w.heap.size w wr ∧ Tabs wr ∧ BoxV wr w.heap.size k b n s a1 l.len x1 a2 f.len x2) (fun _ s7 _ => l.len - (intOf s7).toNat)
     case atStart => exact ⟨h, 0, rfl, rfl, Nat.zero_le _, Lib.hid (by rw [VL.drop_zero]; exact HR1.out), Lib.hid (fun e => e), hx, hTx, hB⟩
     case round =>
       obtain ⟨z, i, rfl, rfl, hil, hz, hz0, hxr, hTr, hBr⟩ := hrel
       obtain ⟨p0, p1, p2, p3, p4, p5⟩ := hBr
       by_cases hlt : i < l.len
       · by_cases hz1 : z = 0
         · subst hz1
           rcases hl with h0 | ⟨b1, o1, rfl, _, hb1, hRL⟩
           · omega
           obtain ⟨t, ht⟩ := VL.get?_lt l i hlt
           have hRL' := RL.keep (Same.of_below (hxr.mono hhi)) (Nat.le_refl _) (Nat.le_refl _) l b1 o1 hb1 hRL
           obtain ⟨v0, v1, v2, v3, v4, v5, e0, e1, e2, e3, e4, e5, hv⟩ := RL.at l b1 o1 i t hRL' ht
           have hdd := (HOK.out (hz0.out (by first | rfl | trivial))).1 (by omega)
           have HC := Lib.hid (HIH.out t (by have := VL.get?_size l i t ht; omega) wr [v0, v1, v2, v3, v4, v5] lo hi (d + 1) hv (Nat.le_trans hhi hxr.size) hTr (by omega) (by omega))
           have HS := Lib.hid (VL.drop_step l i t ht)
           have HV := Lib.hid (And.intro hxr (And.intro hTr hil))
           clear hRL hRL' hv ht hxr hTr
           go_wp2_with (go_at_call 36; refine (HC.out).mono ?_; rintro e w7 ⟨rfl, hb⟩)
           go_roundw
           case rel =>
             obtain ⟨hxr, hTr, _⟩ := HV.out
             refine ⟨Ao t (d + 1), i + 1, rfl, by go_num, by omega, Lib.hid ?_, Lib.hid (fun _ => hz0.out (by first | rfl | trivial)), Aa hxr hxr.size hb, Tabs.below hTr hb, BoxV.keep ⟨p0, p1, p2, p3, p4, p5⟩ hb⟩
             have h1 := hz.out
             rw [if_neg (by simp), HS.out, BH] at h1
             exact h1
           case measure => simp [intOf]; omega
         · have hz2 : (z == 0) = false := by simpa using hz1
           have h1 := hz.out
           rw [if_pos hz1] at h1
           have H1 := Lib.hid h1
           clear h1 hz1
           go_wp2_with fail
           go_meet
           exact ⟨by rw [H1.out], hxr, hTr, p0, p1, p2, p3, p4, p5⟩
       · have hie : i = l.len := by omega
         have h1 := hz.out
         rw [VL.drop_len l i (by omega), BH] at h1
         have H1 := Lib.hid h1
         clear h1 hie
         go_wp2_with fail
         go_meet
         refine ⟨?_, hxr, hTr, p0, p1, p2, p3, p4, p5⟩
         have h1 := H1.out
         by_cases hz1 : z = 0
         · rw [if_neg (by simpa using hz1)] at h1; rw [← h1, hz1]
         · rw [if_pos hz1] at h1; rw [h1]
   case rest =>
     obtain ⟨rfl, hx2, hTx2, hB2⟩ := hcut
     have HR1' := HR1
     clear hx hTx hB HR1
     obtain ⟨p0, p1, p2, p3, p4, p5⟩ := hB2
     have hR : (if r1 ≠ 0 then r1 else Cu ⟨#[]⟩ f (d + 1)) = Ao (.mk k b n s l f) d := by
       rw [HFIN.out]
       by_cases e : r1 = 0
       · obtain ⟨g1, g2⟩ := HZ.out e
         rw [if_neg (by simpa using e), if_neg (by simpa using g1), if_neg (by simpa using g2)]
       · rw [if_pos e]
         have h1 := HR1'.out
         by_cases e0 : h = 0
         · rw [if_neg (by simpa using e0)] at h1
           rw [if_neg (by simpa using e0), if_pos (by rw [h1]; exact e), h1]
         · rw [if_pos e0] at h1
           rw [if_pos e0, h1]
     obtain ⟨R, hR0⟩ : ∃ R, Ao (.mk k b n s l f) d = R := ⟨_, rfl⟩
     rw [hR0] at hR
     have HR := Lib.hid hR
     have HR0 := Lib.hid hR0
     clear hR HFIN hR0
     go_wp2_with fail
     go_loopw [6, 8, 9] (fun s6 s8 s9 wr => ∃ (z : Int) (i : Nat) (last : ByteArray), s6 = .int .i64 z ∧ s8 = .string last ∧ s9 = .int .i64 i ∧ i ≤ f.len ∧ Hid ((if z ≠ 0 then z else Cu last (f.drop i) (d + 1)) = R) ∧ Hid (z = 0 → h = 0) ∧ Below w.heap.size w wr ∧ Tabs wr ∧ BoxV wr w.heap.size k b n s a1 l.len x1 a2 f.len x2) (fun _ _ s9 _ => f.len - (intOf s9).toNat)
     case atStart => exact ⟨r1, 0, ⟨#[]⟩, rfl, rfl, rfl, Nat.zero_le _, Lib.hid (by rw [FL.drop_zero]; exact HR.out), Lib.hid (fun e => (HZ.out e).1), hx2, hTx2, p0, p1, p2, p3, p4, p5⟩
     case round =>
       clear HR p0 p1 p2 p3 p4 p5
       obtain ⟨z, i, last, rfl, rfl, rfl, hil, hz, hz0, hxr, hTr, hBr⟩ := hrel
       obtain ⟨p0, p1, p2, p3, p4, p5⟩ := hBr
       by_cases hlt : i < f.len
       · by_cases hz1 : z = 0
         · subst hz1
           rcases hf with h0 | ⟨b1, o1, rfl, _, hb1, hRF⟩
           · omega
           obtain ⟨⟨s', t⟩, ht⟩ := FL.get?_lt f i hlt
           have hRF' := RF.keep (Same.of_below (hxr.mono hhi)) (Nat.le_refl _) (Nat.le_refl _) f b1 o1 hb1 hRF
           obtain ⟨en, hsn, v0, v1, v2, v3, v4, v5, e0, e1, e2, e3, e4, e5, hv⟩ := RF.at f b1 o1 i s' t hRF' ht
           obtain ⟨k7, b7, n7, s7, a71, l71, c71, a72, l72, c72, rfl, rfl, rfl, rfl, rfl, rfl⟩ := RV.open6 hv
           have hdd := (HOK.out (hz0.out (by first | rfl | trivial))).2 (by omega)
           have htsz := FL.get?_size f i s' t ht
           have HS := Lib.hid (FL.drop_step f i s' t ht)
           have HV := Lib.hid (And.intro hxr (And.intro hTr (And.intro hil (And.intro hv (And.intro hsn htsz)))))
           clear hRF hRF' hv ht hxr hTr
           go_upto_region 12 with (fail)
           have hF := Ab wr (.cells #[.string s', .int .u8 k7, .bool b7, .int .i64 n7, .string s7, .slice a71 l71 c71, .slice a72 l72 c72] 53)
           have hDF := (Below.refl wr.heap.size wr).alloc (Nat.le_refl _) (.cells #[.string s', .int .u8 k7, .bool b7, .int .i64 n7, .string s7, .slice a71 l71 c71, .slice a72 l72 c72] 53)
           obtain ⟨f0, f1, f2, f3, f4, f5, f6, _⟩ := Ky hF
           have lF := lt_of_block hF
           generalize wr.alloc (.cells #[.string s', .int .u8 k7, .bool b7, .int .i64 n7, .string s7, .slice a71 l71 c71, .slice a72 l72 c72] 53) = W at *
           replace p0 := Ac hDF p0
           replace p1 := Ac hDF p1
           replace p2 := Ac hDF p2
           replace p3 := Ac hDF p3
           replace p4 := Ac hDF p4
           replace p5 := Ac hDF p5
           clear hF e0 e1 e2 e3 e4 e5 en
           obtain ⟨zf, hzf⟩ : ∃ q, AR [CL s', Br (Op.bytesLess last.toList s'.toList) 18] = q := ⟨_, rfl⟩
           have HZF := Lib.hid hzf
           have HD := Lib.hid hDF
           clear hzf hDF
           have hTW := Tabs.below HV.out.2.1 HD.out
           have hsn := HV.out.2.2.2.2.1
           go_cut [6] (fun s6 wx => s6 = .int .i64 zf ∧ Below W.heap.size W wx)
           case first =>
             refine Bg 8 3 #[true, true, true, true, true, true, true, true, false, false, false] (fun w' => Below W.heap.size W w' ∧ Tabs w' ∧ w'.cell? ⟨wr.heap.size, 0, none⟩ = some (.string s')) (by kernel_rfl) (by simp only [List.take_succ_cons, List.take_zero]; rfl) (by kernel_rfl) (by kernel_rfl) (by kernel_rfl) ?_ ?_
             · exact ⟨(Below.refl _ _).drew, Tabs.drew hTW, f0⟩
             repeat
               first
               | go_big_quiet_skip
               | go_big_quiet_want
                 apply Exists.intro
                 refine ⟨fun wq hC => ?_, ?_⟩
                 · obtain ⟨q0, q1, q2⟩ := hC
                   unfold Oper.quietAt
                   go_simp
                   first
                   | rfl
                   | exact ⟨rfl, rfl⟩
                   | (go_at_call 53; refine (IB _ _ _).mono ?_; rintro e w7 ⟨rfl, rfl⟩; with_reducible exact ⟨rfl, q0, q1, q2⟩)
                   | (go_at_call 55; refine (PC _ _ hsn q1).mono ?_; rintro e w8 ⟨rfl, hb⟩; with_reducible exact ⟨rfl, Aa q0 q0.size hb, Tabs.below q1 hb, Ac hb q2⟩)
                 (try simp only [Act.put, List.setIfInBounds_toArray, List.set_cons_zero, List.set_cons_succ])
                 go_big_quiet_on
             refine wpQuiet_nil ?_
             rintro wy ⟨q0, q1, q2⟩
             refine Bl 8 _ (by kernel_rfl) (by rfl) (by rfl) (fun K hK => ?_)
             go_simp
             refine hK _ _ ?_
             clear hK K
             refine Bl 9 _ (by kernel_rfl) (by rfl) (by rfl) (fun K hK => ?_)
             go_simp
             refine (So _ _ _ _).mono ?_
             rintro e w9 ⟨rfl, rfl⟩
             refine hK _ _ ?_
             clear hK K
             refine Bl 10 _ (by kernel_rfl) (by rfl) (by rfl) (fun K hK => ?_)
             go_simp
             refine hK _ _ ?_
             clear hK K
             refine Dh (by kernel_rfl) ?_
             go_wp2_with fail
             go_meet
             refine ⟨?_, q0.alloc q0.size _⟩
             rw [← HZF.out, IP]
           case rest =>
             obtain ⟨rfl, hx3⟩ := hcut
             have hTx3 := Tabs.below hTW hx3
             replace p0 := Ac hx3 p0
             replace p1 := Ac hx3 p1
             replace p2 := Ac hx3 p2
             replace p3 := Ac hx3 p3
             replace p4 := Ac hx3 p4
             replace p5 := Ac hx3 p5
             replace f0 := Ac hx3 f0
             replace f1 := Ac hx3 f1
             replace f2 := Ac hx3 f2
             replace f3 := Ac hx3 f3
             replace f4 := Ac hx3 f4
             replace f5 := Ac hx3 f5
             replace f6 := Ac hx3 f6
             have HX3 := Lib.hid hx3
             clear hx3 hTW
             have hbx : Below w.heap.size w wc := by
               obtain ⟨hxr, _⟩ := HV.out
               exact Aa (Aa hxr hxr.size HD.out) (Nat.le_trans hxr.size HD.out.size) HX3.out
             have HBX := Lib.hid hbx
             clear hbx
             have hstep := hz.out
             rw [if_neg (by simp), HS.out, Cu, HZF.out] at hstep
             have HSTEP := Lib.hid hstep
             clear hstep
             by_cases hzf : zf = 0
             · subst hzf
               have hvx : RV wc lo hi t [.int .u8 k7, .bool b7, .int .i64 n7, .string s7, .slice a71 l71 c71, .slice a72 l72 c72] := by
                 obtain ⟨hxr, _, _, hv, _⟩ := HV.out
                 exact RV.keep (Same.of_below ((HD.out.trans (HX3.out.mono HD.out.size)).mono (Nat.le_trans hhi hxr.size))) (Nat.le_refl _) (Nat.le_refl _) t _ hv
               have HC := Lib.hid (HIH.out t (by have := HV.out.2.2.2.2.2; omega) wc [.int .u8 k7, .bool b7, .int .i64 n7, .string s7, .slice a71 l71 c71, .slice a72 l72 c72] lo hi (d + 1) hvx (Nat.le_trans hhi HBX.out.size) hTx3 (by omega) (by omega))
               clear hvx
               go_wp2_with (go_at_call 36; refine (HC.out).mono ?_; rintro e w7 ⟨rfl, hb⟩; replace f0 := Ac hb f0)
               go_roundw
               case rel =>
                 refine ⟨Ao t (d + 1), i + 1, s', rfl, rfl, by go_num, by omega, Lib.hid ?_, Lib.hid (fun _ => hz0.out (by first | rfl | trivial)), Aa HBX.out HBX.out.size hb, Tabs.below hTx3 hb, BoxV.keep ⟨p0, p1, p2, p3, p4, p5⟩ hb⟩
                 have h1 := HSTEP.out
                 rw [if_neg (by simp)] at h1
                 exact h1
               case measure => simp [intOf]; omega
             · have hz2 : (zf == 0) = false := by simpa using hzf
               have h1 := HSTEP.out
               rw [if_pos hzf] at h1
               have H1 := Lib.hid h1
               have HN := Lib.hid hzf
               clear h1 hzf
               go_wp2_with fail
               go_roundw
               case rel =>
                 refine ⟨zf, i + 1, s', rfl, rfl, by go_num, by omega, Lib.hid ?_, Lib.hid (fun e => absurd e HN.out), HBX.out, hTx3, p0, p1, p2, p3, p4, p5⟩
                 rw [if_pos HN.out]; exact H1.out
               case measure => simp [intOf]; omega
         · have hz2 : (z == 0) = false := by simpa using hz1
           have h1 := hz.out
           rw [if_pos hz1] at h1
           have H1 := Lib.hid h1
           clear h1 hz1
           go_wp2_with fail
           go_ret
           exact ⟨Bc (by rw [H1.out, HR0.out]), hxr⟩
       · have hie : i = f.len := by omega
         have h1 := hz.out
         rw [FL.drop_len f i (by omega), Cu] at h1
         have H1 := Lib.hid h1
         clear h1 hie
         go_wp2_with fail
         go_ret
         refine ⟨Bc ?_, hxr⟩
         have h1 := H1.out
         by_cases hz1 : z = 0
         · rw [if_neg (by simpa using hz1)] at h1; rw [HR0.out, ← h1, hz1]
         · rw [if_pos hz1] at h1; rw [HR0.out, h1]
theorem NA : ∀ (N : Nat) (t : VT), t.size < N → ∀ (w : World) (cs : List Value) (lo hi : Nat) (d : Int), RV w lo hi t cs → hi ≤ w.heap.size → Tabs w → 0 ≤ d → d ≤ 6 →
   Calls Tryz.prog 36 #[.agg cs.toArray, .int .i64 d] w fun x w' => x = .returned (.int .i64 (Ao t d)) ∧ Below w.heap.size w w' := by
 intro N
 induction N with
 | zero => intro t ht; omega
 | succ N ih =>
   intro t ht w cs lo hi d hv hhi hT hd0 hd6
   cases t with
   | mk k b n s l f =>
     unfold RV at hv
     obtain ⟨a1, c1, a2, c2, rfl, hk, hn, hsz, hl, hf, hc1, hc2, hL, hF⟩ := hv
     have hN : 1 + l.size + f.size ≤ N := by unfold VT.size at ht; omega
     show Calls Tryz.prog 36 #[.agg #[.int .u8 k, .bool b, .int .i64 n, .string s, .slice a1 l.len c1, .slice a2 f.len c2], .int .i64 d] w _
     exact M6 N ih w k b n s l f a1 c1 a2 c2 d lo hi hN hk.1 hsz hT hd0 hd6 hl hf hhi hL hF
theorem NB (t : VT) (w : World) (cs : List Value) (lo hi : Nat) (d : Int) (hv : RV w lo hi t cs) (hhi : hi ≤ w.heap.size) (hT : Tabs w) (hd0 : 0 ≤ d) (hd6 : d ≤ 6) :
  Calls Tryz.prog 36 #[.agg cs.toArray, .int .i64 d] w fun x w' => x = .returned (.int .i64 (Ao t d)) ∧ Below w.heap.size w w' :=
 NA (t.size + 1) t (Nat.lt_succ_self _) w cs lo hi d hv hhi hT hd0 hd6
theorem Bu (t : VT) (w : World) (cs : List Value) (lo hi : Nat) (hv : RV w lo hi t cs) (hhi : hi ≤ w.heap.size) (hT : Tabs w) :
   Calls Tryz.prog 17 #[.agg cs.toArray] w fun x w' => x = .returned (.int .i64 (Ao t 0)) ∧ Below w.heap.size w w' := by
 cases t with
 | mk k b n s l f =>
   have hv0 := hv
   unfold RV at hv0
   obtain ⟨a1, c1, a2, c2, rfl, _⟩ := hv0
   obtain ⟨r, hr⟩ : ∃ r, Ao (.mk k b n s l f) 0 = r := ⟨_, rfl⟩
   have HCH := Lib.hid (NB (.mk k b n s l f) _ _ lo hi 0 (RV.below hv ((Below.refl hi w).alloc hhi (.cells #[.int .u8 k, .bool b, .int .i64 n, .string s, .slice a1 l.len c1, .slice a2 f.len c2] 27))) (by simp; omega) (Tabs.below hT ((Below.refl w.heap.size w).alloc (Nat.le_refl _) _)) (by omega) (by omega))
   rw [hr] at HCH ⊢
   clear hv hT hr
   go_enter Tryz.func17, Tryz.ntmps17
   go_wp2_with (go_at_call 36; refine (HCH.out).mono ?_; rintro e w7 ⟨rfl, hb⟩)
   go_ret
   exact ⟨rfl, ((Below.refl _ _).alloc (Nat.le_refl _) _).trans (hb.mono (by simp))⟩
end Go.Proofs.YtbemgcjckchdjaaGreatDoor
