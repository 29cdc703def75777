import Derived.Test.YtbemgcjckchdjaaGreatDoorLVj
import Derived.Shelf.Unicode.PredsPay
import Derived.Deep.RegionWith
/- What is laid in memory when a law begins; strconv.Atoi and Itoa as the program uses them. -/
namespace Go.Proofs.YtbemgcjckchdjaaGreatDoor
open Go.RowKit
set_option linter.unusedSimpArgs false
set_option linter.unusedVariables false
structure Laid (w : World) : Prop where
 tabs : Tabs w
 pow : Lib.TabIs Tryz.prog w "internal/strconv.uint64pow10" .u64 Lib.pow10Tab
 esyn : ∃ tp p, w.cell? ⟨2, 0, none⟩ = some (.iface tp p)
 eran : ∃ tp p, w.cell? ⟨3, 0, none⟩ = some (.iface tp p)
 maxl : ∃ m, w.cell? ⟨4, 0, none⟩ = some (.int .i64 m)
theorem Laid.below {w w' : World} (h : Laid w) (hb : Below w.heap.size w w') : Laid w' :=
 ⟨Tabs.below h.tabs hb, TabIs_below (g := 5) (by kernel_rfl) h.pow hb, by obtain ⟨tp, p, h1⟩ := h.esyn; exact ⟨tp, p, Ac hb h1⟩, by obtain ⟨tp, p, h1⟩ := h.eran; exact ⟨tp, p, Ac hb h1⟩, by obtain ⟨m, h1⟩ := h.maxl; exact ⟨m, Ac hb h1⟩⟩
theorem Laid.drew {w : World} (h : Laid w) : Laid w.drew := h.below (Below.refl w.heap.size w).drew
theorem Al (w : World) : ∀ k, Below w.heap.size w (w.drewN k) := fun k => ⟨rfl, rfl, rfl, Nat.le_refl _, fun _ _ => rfl⟩
theorem Ih (w : World) (k : Nat) (os : Array Obj) : Below w.heap.size w (Sort.grow (w.drewN k) os) :=
 ⟨rfl, rfl, rfl, by simp [Sort.grow, World.drewN], fun i hi => by simp only [Sort.grow, World.drewN]; rw [Array.getElem?_append_left hi]⟩
theorem D6 (w : World) (T : TypeId) (t : ByteArray) : Below w.heap.size w (Lib.bytesWorld w T t) := by
 have h := ((Below.refl w.heap.size w).drew).alloc (Nat.le_refl _) (.cells (Lib.bytesCells w T t) T)
 refine ⟨rfl, rfl, rfl, ?_, fun k hk => ?_⟩
 · have := h.size; simp only [Lib.bytesWorld, World.freeze, Nat.one_ne_zero, if_false, Array.size_modify]; exact this
 · have := h.block k hk
   simp only [Lib.bytesWorld, World.freeze, Nat.one_ne_zero, if_false]
   rw [Array.getElem?_modify, if_neg (by omega)]
   exact this
def OW (s : ByteArray) (e : Ending) : Prop :=
 (∃ v, Lib.atoiAll s.data.toList = .ok v ∧ e = .returned (.tuple #[.int .i64 v, .nilIface])) ∨
 ((∀ v, Lib.atoiAll s.data.toList ≠ .ok v) ∧ ∃ z N, e = .returned (.tuple #[.int .i64 z, .iface 199 (.pointer (some ⟨N, 0, none⟩))]))
theorem Ph (s : ByteArray) (w : World) (hs : s.size ≤ LIM) (hL : Laid w) : Calls Tryz.prog 73 #[.string s] w fun e w' => OW s e ∧ Below w.heap.size w w' := by
 unfold LIM at hs
 cases h : Lib.atoiAll s.data.toList with
 | ok v => exact (Tryz.strconv_Atoi_ok s (by omega) v h w).mono fun e w' ⟨h1, h2⟩ => ⟨Or.inl ⟨v, h, h1⟩, by
    rcases h2 with rfl | ⟨t, rfl⟩
    · exact Below.refl _ _
    · exact D6 _ _ _⟩
 | range =>
   obtain ⟨tp, p, hv⟩ := hL.eran
   exact (Tryz.strconv_Atoi_range s (by omega) h _ w hv (Or.inr ⟨tp, p, rfl⟩)).mono fun e w' ⟨N, h1, _, _, h2⟩ => ⟨Or.inr ⟨by simp [h], _, N, h1⟩, h2⟩
 | _ =>
   obtain ⟨tp, p, hv⟩ := hL.esyn
   exact (Tryz.strconv_Atoi_syntax s (by omega) (by rw [h]; simp) (by rw [h]; simp) _ w hv (Or.inr ⟨tp, p, rfl⟩)).mono fun e w' ⟨N, h1, _, _, h2⟩ => ⟨Or.inr ⟨by simp [h], 0, N, h1⟩, h2⟩
theorem P3 (n : Int) (w : World) (hn : I64 n) (hL : Laid w) : Calls Tryz.prog 74 #[.int .i64 n] w fun e w' => e = .returned (.string ⟨(Lib.itoa n).toArray⟩) ∧ Below w.heap.size w w' :=
 (Tryz.strconv_Itoa n hn.1 hn.2 w hL.pow).mono fun e w' ⟨h1, k, os, h2⟩ => ⟨h1, by rw [h2]; exact Ih _ _ _⟩
def Fy (p : ByteArray) (n : Nat) : Option Nat :=
 match Lib.atoiAll p.data.toList with
 | .ok v => if 0 ≤ v ∧ v < n ∧ Lib.itoa v = p.data.toList then some v.toNat else none
 | _ => none
def BS (p : ByteArray) : FL → Nat → Int
 | .nil, _ => -1
 | .cons s _ r, i => if s.toList == p.toList then i else BS p r (i + 1)
def B5 : VT → List ByteArray → Option VT
 | t, [] => some t
 | .mk k _ _ _ l f, p :: r =>
   if k = 6 then (match f.get? (BS p f 0).toNat with | some (_, t') => if BS p f 0 < 0 then none else B5 t' r | none => none)
   else if k = 5 then (match Fy p l.len with | some i => (match l.get? i with | some t' => B5 t' r | none => none) | none => none)
   else none
/- value.Get. -/
theorem J8 (p : ByteArray) (w : World) : Calls Tryz.prog 72 #[.string p] w fun e w' => ∃ q, e = .returned (.func (.func 97) #[] #[.pointer (some ⟨q, 0, none⟩)]) ∧ w'.cell? ⟨q, 0, none⟩ = some (.string p) ∧ Below w.heap.size w w' := by
 have h := Ab w (.cells #[.string p] 9)
 have h2 : (w.alloc (.cells #[.string p] 9)).cell? ⟨w.heap.size, 0, none⟩ = some (.string p) := by unfold World.cell?; rw [h]; rfl
 have H := Lib.hid h2
 clear h h2
 go_enter Tryz.func72, Tryz.ntmps72
 go_wp2
 go_ret
 exact ⟨w.heap.size, rfl, H.out, (Below.refl _ _).alloc (Nat.le_refl _) _⟩
theorem MQ (p s : ByteArray) (v0 v1 v2 v3 v4 v5 : Value) (q : Nat) (w : World) (hq : w.cell? ⟨q, 0, none⟩ = some (.string p)) :
  Calls Tryz.prog 97 #[.agg #[.string s, v0, v1, v2, v3, v4, v5], .pointer (some ⟨q, 0, none⟩)] w fun e w' => e = .returned (.bool (s.toList == p.toList)) ∧ Below w.heap.size w w' := by
 have lq : q < w.heap.size := by
  rcases Nat.lt_or_ge q w.heap.size with h' | h'
  · exact h'
  · simp [World.cell?, Array.getElem?_eq_none h'] at hq
 have nq : q ≠ w.heap.size := by omega
 go_enter Tryz.func97, Tryz.ntmps97
 go_wp2
 go_ret
 exact ⟨rfl, (Below.refl _ _).alloc (Nat.le_refl _) _⟩
theorem NM (p : ByteArray) (f : FL) (i : Nat) (s : ByteArray) (t : VT) (h : f.get? i = some (s, t)) : BS p (f.drop i) i = if s.toList == p.toList then (i : Int) else BS p (f.drop (i + 1)) (i + 1) := by
 rw [FL.drop_step f i s t h, BS]
set_option maxHeartbeats 1000000 in
set_option maxRecDepth 100000 in
theorem EJ (p : ByteArray) (w : World) (hi : Nat) (f : FL) (a : Option Addr) (c q : Nat) (hq : w.cell? ⟨q, 0, none⟩ = some (.string p)) (hf : f.len ≤ LIM) (hhi : hi ≤ w.heap.size) (hr : f.len = 0 ∨ ∃ b o, a = some ⟨b, o, none⟩ ∧ 0 ≤ b ∧ b < hi ∧ RF w 0 hi f b o) :
  Calls Tryz.prog 71 #[.slice a f.len c, .func (.func 97) #[] #[.pointer (some ⟨q, 0, none⟩)]] w fun e w' => e = .returned (.int .i64 (BS p f 0)) ∧ Below w.heap.size w w' := by
 unfold LIM at hf
 obtain ⟨r, hr0⟩ : ∃ r, BS p f 0 = r := ⟨_, rfl⟩
 rw [hr0]
 have HR := Lib.hid hr0
 clear hr0
 go_enter Tryz.func71, Tryz.ntmps71
 go_wp2
 go_loopw [8] (fun s8 wr => ∃ i : Nat, s8 = .int .i64 i ∧ i ≤ f.len ∧ Hid (BS p (f.drop i) i = r) ∧ Below w.heap.size w wr) (fun s8 _ => f.len - (intOf s8).toNat)
 case atStart => exact ⟨0, rfl, Nat.zero_le _, Lib.hid (by rw [FL.drop_zero]; exact HR.out), Below.refl _ _⟩
 case round =>
  obtain ⟨i, rfl, hil, HD, hx⟩ := hrel
  by_cases h1 : i < f.len
  · rcases hr with h0 | ⟨b1, o1, rfl, _, hb1, hR1⟩
    · omega
    obtain ⟨⟨s, t⟩, ht⟩ := FL.get?_lt f i h1
    replace hR1 := RF.keep (Same.of_below (hx.mono hhi)) (Nat.le_refl _) (Nat.le_refl _) f b1 o1 hb1 hR1
    obtain ⟨en, hsn, v0, v1, v2, v3, v4, v5, e0, e1, e2, e3, e4, e5, hv⟩ := RF.at f b1 o1 i s t hR1 ht
    have HS := Lib.hid (NM p f i s t ht)
    have HC := Lib.hid (MQ p s v0 v1 v2 v3 v4 v5 q wr (Ac hx hq))
    have hstep := HD.out
    rw [HS.out] at hstep
    have HX := Lib.hid hx
    clear hR1 hv ht HD HS HR hx hq
    cases hz : (s.toList == p.toList) with
    | true =>
      rw [hz] at HC hstep
      have HST := Lib.hid hstep
      clear hstep hz
      go_wp2_with (go_at_call 97; refine (HC.out).mono ?_; rintro e w7 ⟨rfl, hb⟩)
      go_ret
      exact ⟨Bc (by simpa using HST.out), Aa HX.out HX.out.size hb⟩
    | false =>
      rw [hz] at HC hstep
      have HST := Lib.hid hstep
      clear hstep hz
      go_wp2_with (go_at_call 97; refine (HC.out).mono ?_; rintro e w7 ⟨rfl, hb⟩)
      go_roundw
      case rel => exact ⟨i + 1, by go_num, by omega, Lib.hid (by simpa using HST.out), Aa HX.out HX.out.size hb⟩
      case measure => simp [intOf]; omega
  · have he := HD.out
    rw [FL.drop_len f i (by omega), BS] at he
    have HE := Lib.hid he
    clear he HD HR
    go_wp2
    go_ret
    exact ⟨Bc HE.out, hx⟩
theorem Mh (p : ByteArray) : ∀ (f : FL) (i : Nat), BS p f i = -1 ∨ ∃ j s t, BS p f i = ((i + j : Nat) : Int) ∧ f.get? j = some (s, t)
 | .nil, i => Or.inl rfl
 | .cons s t r, i => by
   unfold BS
   split
   · exact Or.inr ⟨0, s, t, rfl, rfl⟩
   · rcases Mh p r (i + 1) with h | ⟨j, s', t', h1, h2⟩
     · exact Or.inl h
     · exact Or.inr ⟨j + 1, s', t', by rw [h1]; congr 1; omega, by simpa [FL.get?] using h2⟩
def IJ (w : World) (r : Option VT) (x : Ending) (w' : World) : Prop :=
 Below w.heap.size w w' ∧ match r with
 | none => x = .returned (.tuple #[.agg #[.int .u8 0, .bool false, .int .i64 0, .string ⟨#[]⟩, .slice none 0 0, .slice none 0 0], .bool false])
 | some t => ∃ (k : Int) (b : Bool) (n : Int) (s : ByteArray) (a1 : Option Addr) (l1 c1 : Nat) (a2 : Option Addr) (l2 c2 : Nat), x = .returned (.tuple #[.agg #[.int .u8 k, .bool b, .int .i64 n, .string s, .slice a1 l1 c1, .slice a2 l2 c2], .bool true]) ∧ RV w' w.heap.size w'.heap.size t [.int .u8 k, .bool b, .int .i64 n, .string s, .slice a1 l1 c1, .slice a2 l2 c2]
def QA (w : World) (hi : Nat) (r : Option VT) (path : List ByteArray) (i : Nat) (wr : World) (k : Int) (b : Bool) (n : Int) (s : ByteArray) (l : VL) (f : FL) (a1 : Option Addr) (c1 : Nat) (a2 : Option Addr) (c2 : Nat) : Prop :=
 wr.heap[w.heap.size]? = some (.cells #[.int .u8 k, .bool b, .int .i64 n, .string s, .slice a1 l.len c1, .slice a2 f.len c2] 27 (0, 0)) ∧ wr.heap[w.heap.size + 1]? = some (.cells #[.int .u8 0, .bool false, .int .i64 0, .string ⟨#[]⟩, .slice none 0 0, .slice none 0 0] 27 (0, 0)) ∧ Below w.heap.size w wr ∧
 RV w 0 hi (.mk k b n s l f) [.int .u8 k, .bool b, .int .i64 n, .string s, .slice a1 l.len c1, .slice a2 f.len c2] ∧ B5 (.mk k b n s l f) (path.drop i) = r
theorem RV.mk_parts {w : World} {lo hi : Nat} {t : VT} {cs : List Value} (h : RV w lo hi t cs) : ∃ (k : Int) (b : Bool) (n : Int) (s : ByteArray) (l : VL) (f : FL) (a1 : Option Addr) (c1 : Nat) (a2 : Option Addr) (c2 : Nat), t = .mk k b n s l f ∧ cs = [.int .u8 k, .bool b, .int .i64 n, .string s, .slice a1 l.len c1, .slice a2 f.len c2] ∧ l.len ≤ LIM ∧ f.len ≤ LIM ∧
   (l.len = 0 ∨ ∃ b o, a1 = some ⟨b, o, none⟩ ∧ lo ≤ b ∧ b < hi ∧ RL w lo hi l b o) ∧ (f.len = 0 ∨ ∃ b o, a2 = some ⟨b, o, none⟩ ∧ lo ≤ b ∧ b < hi ∧ RF w lo hi f b o) := by
 cases t with
 | mk k b n s l f =>
   unfold RV at h
   obtain ⟨a1, c1, a2, c2, e, hk, hn, hsz, hl, hf, hc1, hc2, hL, hF⟩ := h
   exact ⟨k, b, n, s, l, f, a1, c1, a2, c2, rfl, e, hl, hf, hL, hF⟩
theorem RV.rows {w : World} {lo hi : Nat} {k : Int} {b : Bool} {n : Int} {s : ByteArray} {l : VL} {f : FL} {a1 a2 : Option Addr} {c1 c2 : Nat} (h : RV w lo hi (.mk k b n s l f) [.int .u8 k, .bool b, .int .i64 n, .string s, .slice a1 l.len c1, .slice a2 f.len c2]) :
  (l.len = 0 ∨ ∃ b o, a1 = some ⟨b, o, none⟩ ∧ lo ≤ b ∧ b < hi ∧ RL w lo hi l b o) ∧ (f.len = 0 ∨ ∃ b o, a2 = some ⟨b, o, none⟩ ∧ lo ≤ b ∧ b < hi ∧ RF w lo hi f b o) := by
 unfold RV at h
 obtain ⟨a1', c1', a2', c2', e, hk, hn, hsz, hl, hf, hc1, hc2, hL, hF⟩ := h
 simp only [List.cons.injEq, Value.slice.injEq, true_and, and_true] at e
 obtain ⟨⟨rfl, rfl⟩, rfl, rfl⟩ := e
 exact ⟨hL, hF⟩
theorem Rc {w wr w7 : World} {r : Option VT} {t : VT} {k : Int} {b : Bool} {n : Int} {s : ByteArray} {a1 : Option Addr} {l1 c1 : Nat} {a2 : Option Addr} {l2 c2 : Nat} (hr : r = some t) (hD : Below w.heap.size w wr) (hz : w.heap.size + 1 < wr.heap.size) (hb : Below wr.heap.size wr w7) (hv : RV w7 wr.heap.size w7.heap.size t [.int .u8 k, .bool b, .int .i64 n, .string s, .slice a1 l1 c1, .slice a2 l2 c2]) {u0 u1 u2 u3 u4 u5 : Value} :
  IJ w r (.returned (.tuple #[.agg #[.int .u8 k, .bool b, .int .i64 n, .string s, .slice a1 l1 c1, .slice a2 l2 c2], .bool true])) (w7.setCells (w.heap.size + 1) 0 [u0, u1, u2, u3, u4, u5]) := by
 subst hr
 refine ⟨Ag (by omega) _ _ _ (Aa hD hD.size hb), k, b, n, s, a1, l1, c1, a2, l2, c2, rfl, ?_⟩
 rw [Ay]
 have h1 : RV w7 (w.heap.size + 2) w7.heap.size t [.int .u8 k, .bool b, .int .i64 n, .string s, .slice a1 l1 c1, .slice a2 l2 c2] := RV.keep (fun _ _ _ => rfl) (by omega) (Nat.le_refl _) t _ hv
 exact RV.keep (fun _ _ _ => rfl) (by omega) (Nat.le_refl _) t _ (RV.mid (fun b o hb _ => Ar (by omega) _ _ _ _) (Nat.le_refl _) t _ h1)
theorem Du {w wr : World} {r : Option VT} (hr : r = none) (hD : Below w.heap.size w wr) {u0 u1 u2 u3 u4 u5 : Value} : IJ w r (.returned (.tuple #[.agg #[.int .u8 0, .bool false, .int .i64 0, .string ⟨#[]⟩, .slice none 0 0, .slice none 0 0], .bool false])) (wr.setCells (w.heap.size + 1) 0 [u0, u1, u2, u3, u4, u5]) := by
 subst hr
 exact ⟨Ag (by omega) _ _ _ hD, rfl⟩
theorem KE {w wr : World} {hi : Nat} {r : Option VT} {path : List ByteArray} {i : Nat} {t : VT} {v0 v1 v2 v3 v4 v5 u0 u1 u2 u3 u4 u5 : Value} (hT : wr.heap[w.heap.size]? = some (.cells #[u0, u1, u2, u3, u4, u5] 27 (0, 0))) (hZ : wr.heap[w.heap.size + 1]? = some (.cells #[.int .u8 0, .bool false, .int .i64 0, .string ⟨#[]⟩, .slice none 0 0, .slice none 0 0] 27 (0, 0))) (hD : Below w.heap.size w wr)
  (hv : RV w 0 hi t [v0, v1, v2, v3, v4, v5]) (hr : B5 t (path.drop i) = r) : ∃ k b n s l f a1 c1 a2 c2, QA w hi r path i (wr.setCells w.heap.size 0 [v0, v1, v2, v3, v4, v5]) k b n s l f a1 c1 a2 c2 ∧ l.len ≤ LIM ∧ f.len ≤ LIM := by
 obtain ⟨k, b, n, s, l, f, a1, c1, a2, c2, rfl, e, hl, hf, _⟩ := RV.mk_parts hv
 simp only [List.cons.injEq, and_true] at e
 obtain ⟨rfl, rfl, rfl, rfl, rfl, rfl⟩ := e
 refine ⟨k, b, n, s, l, f, a1, c1, a2, c2, ⟨?_, B7 (by omega) _ _ _ hZ, Ag (Nat.le_refl _) _ _ _ hD, hv, hr⟩, hl, hf⟩
 exact heap_setCell_same _ _ 5 _ _ _ (heap_setCell_same _ _ 4 _ _ _ (heap_setCell_same _ _ 3 _ _ _ (heap_setCell_same _ _ 2 _ _ _ (heap_setCell_same _ _ 1 _ _ _ (heap_setCell_same _ _ 0 _ _ _ hT)))))
theorem L7 {b : Bool} {n : Int} {s : ByteArray} {l : VL} {f : FL} {p : ByteArray} {r : List ByteArray} {j : Nat} {s' : ByteArray} {t : VT} (h : BS p f 0 = (j : Int)) (h2 : f.get? j = some (s', t)) : B5 (.mk 6 b n s l f) (p :: r) = B5 t r := by
 rw [B5, if_pos rfl, h, Int.toNat_natCast, h2]
 simp only
 rw [if_neg (by omega)]
theorem KD {b : Bool} {n : Int} {s : ByteArray} {l : VL} {f : FL} {p : ByteArray} {r : List ByteArray} (h : BS p f 0 = -1) : B5 (.mk 6 b n s l f) (p :: r) = none := by
 rw [B5, if_pos rfl, h]
 split
 · rw [if_pos (by omega)]
 · rfl
theorem NK {b : Bool} {n : Int} {s : ByteArray} {l : VL} {f : FL} {p : ByteArray} {r : List ByteArray} {j : Nat} {t : VT} (h : Fy p l.len = some j) (h2 : l.get? j = some t) : B5 (.mk 5 b n s l f) (p :: r) = B5 t r := by
 rw [B5, if_neg (by decide), if_pos rfl, h]
 simp only
 rw [h2]
theorem DS {b : Bool} {n : Int} {s : ByteArray} {l : VL} {f : FL} {p : ByteArray} {r : List ByteArray} (h : Fy p l.len = none) : B5 (.mk 5 b n s l f) (p :: r) = none := by
 rw [B5, if_neg (by decide), if_pos rfl, h]
theorem Rn {p : ByteArray} {n : Nat} (h : ∀ v, Lib.atoiAll p.data.toList ≠ .ok v) : Fy p n = none := by
 unfold Fy
 split
 · exact absurd ‹_› (h _)
 · rfl
theorem Hr {p : ByteArray} {n : Nat} {v : Int} (h : Lib.atoiAll p.data.toList = .ok v) (h2 : ¬ (0 ≤ v ∧ v < n ∧ Lib.itoa v = p.data.toList)) : Fy p n = none := by
 unfold Fy
 rw [h]
 exact if_neg h2
theorem Rm {p : ByteArray} {n j : Nat} (h : Lib.atoiAll p.data.toList = .ok (j : Int)) (hj : (j : Int) < n) (h2 : Lib.itoa (j : Int) = p.data.toList) : Fy p n = some j := by
 unfold Fy
 rw [h]
 exact if_pos ⟨by omega, hj, h2⟩
theorem MC {k : Int} {b : Bool} {n : Int} {s : ByteArray} {l : VL} {f : FL} {p : ByteArray} {r : List ByteArray} (h5 : k ≠ 5) (h6 : k ≠ 6) : B5 (.mk k b n s l f) (p :: r) = none := by
 rw [B5, if_neg h6, if_neg h5]
set_option maxHeartbeats 1000000 in
set_option maxRecDepth 100000 in
theorem Ma (t : VT) (path : List ByteArray) (w : World) (cs : List Value) (hi : Nat) (ap : Option Addr) (cp : Nat) (hv : RV w 0 hi t cs) (hhi : hi ≤ w.heap.size) (hL : Laid w) (hpl : path.length ≤ LIM) (hps : ∀ p ∈ path, p.size ≤ LIM)
  (hp : path.length = 0 ∨ ∃ b o, ap = some ⟨b, o, none⟩ ∧ b < hi ∧ ∀ i, i < path.length → w.cell? ⟨b, o + i, none⟩ = some (.string (path.getD i ⟨#[]⟩))) :
  Calls Tryz.prog 50 #[.agg cs.toArray, .slice ap path.length cp] w (IJ w (B5 t path)) := by
 obtain ⟨r, hr⟩ : ∃ r, B5 t path = r := ⟨_, rfl⟩
 rw [hr]
 obtain ⟨k, b, n, s, l, f, a1, c1, a2, c2, rfl, rfl, hl, hf, _⟩ := RV.mk_parts hv
 unfold LIM at hpl
 have HV := Lib.hid hv
 have HR := Lib.hid hr
 have HL := Lib.hid hL
 have HPS := Lib.hid hps
 clear hv hr hL hps
 show Calls Tryz.prog 50 #[.agg #[.int .u8 k, .bool b, .int .i64 n, .string s, .slice a1 l.len c1, .slice a2 f.len c2], .slice ap path.length cp] w _
 go_enter Tryz.func50, Tryz.ntmps50
 go_wp2_with fail
 have hT0 := Ab w (.cells #[.int .u8 k, .bool b, .int .i64 n, .string s, .slice a1 l.len c1, .slice a2 f.len c2] 27)
 have hT := Af (o := .cells #[.int .u8 0, .bool false, .int .i64 0, .string ⟨#[]⟩, .slice none 0 0, .slice none 0 0] 27) hT0
 have hZ := Ab (w.alloc (.cells #[.int .u8 k, .bool b, .int .i64 n, .string s, .slice a1 l.len c1, .slice a2 f.len c2] 27)) (.cells #[.int .u8 0, .bool false, .int .i64 0, .string ⟨#[]⟩, .slice none 0 0, .slice none 0 0] 27)
 have esz : (w.alloc (.cells #[.int .u8 k, .bool b, .int .i64 n, .string s, .slice a1 l.len c1, .slice a2 f.len c2] 27)).heap.size = w.heap.size + 1 := by simp
 rw [esz] at hZ
 have hD := Aj (w := w) (.cells #[.int .u8 k, .bool b, .int .i64 n, .string s, .slice a1 l.len c1, .slice a2 f.len c2] 27) (.cells #[.int .u8 0, .bool false, .int .i64 0, .string ⟨#[]⟩, .slice none 0 0, .slice none 0 0] 27)
 generalize (w.alloc (.cells #[.int .u8 k, .bool b, .int .i64 n, .string s, .slice a1 l.len c1, .slice a2 f.len c2] 27)).alloc (.cells #[.int .u8 0, .bool false, .int .i64 0, .string ⟨#[]⟩, .slice none 0 0, .slice none 0 0] 27) = W at *
 clear hT0 esz
 go_loopw [13] (fun s13 wr => ∃ i : Nat, s13 = .int .i64 i ∧ i ≤ path.length ∧ ∃ k b n s l f a1 c1 a2 c2, QA w hi r path i wr k b n s l f a1 c1 a2 c2 ∧ l.len ≤ LIM ∧ f.len ≤ LIM) (fun s13 _ => path.length - (intOf s13).toNat)
 case atStart => exact ⟨0, rfl, Nat.zero_le _, k, b, n, s, l, f, a1, c1, a2, c2, ⟨hT, hZ, hD, HV.out, HR.out⟩, hl, hf⟩
 case round =>
  clear hT hZ hD HV HR hl hf
  obtain ⟨i, rfl, hil, k, b, n, s, l, f, a1, c1, a2, c2, ⟨hT, hZ, hD, hv, hr⟩, hl, hf⟩ := hrel
  unfold LIM at hl hf
  obtain ⟨t0, t1, t2, t3, t4, t5, t6⟩ := Ae hT
  obtain ⟨z0, z1, z2, z3, z4, z5, z6⟩ := Ae hZ
  have lZ := lt_of_block hZ
  have lT := lt_of_block hT
  obtain ⟨hL1, hF1⟩ := RV.rows hv
  by_cases hlt : i < path.length
  · rcases hp with h0 | ⟨bp, op, rfl, hbp, hcp⟩
    · omega
    have hcell := hcp i hlt
    have hdrop : path.drop i = path.getD i ⟨#[]⟩ :: path.drop (i + 1) := by rw [List.drop_eq_getElem_cons hlt]; simp [List.getD, List.getElem?_eq_getElem hlt]
    have hmem : path.getD i ⟨#[]⟩ ∈ path := by simp [List.getD, List.getElem?_eq_getElem hlt]
    have hpsz := HPS.out _ hmem
    rw [hdrop] at hr
    generalize path.getD i ⟨#[]⟩ = p at *
    have hcw := (hD.cell (p := ⟨bp, op + i, none⟩) (by simp; omega)).trans hcell
    clear hcell hcp hdrop hmem
    unfold LIM at hpsz
    by_cases h6 : k = 6
    · subst h6
      have HIX := Lib.hid (fun (w' : World) (hb : Below w.heap.size w w') (q : Nat) (hq : w'.cell? ⟨q, 0, none⟩ = some (.string p)) => EJ p w' hi f a2 c2 q hq hf (Nat.le_trans hhi hb.size) (hF1.imp id fun ⟨b, o, e, h0, h1, h2⟩ => ⟨b, o, e, h0, h1, RF.keep (Same.of_below (hb.mono hhi)) (Nat.le_refl _) (Nat.le_refl _) f b o h1 h2⟩))
      have HF1 := Lib.hid hF1
      have HVV := Lib.hid hv
      have HRR := Lib.hid hr
      have HD := Lib.hid hD
      have HT := Lib.hid hT
      have HZ := Lib.hid hZ
      clear hF1 hL1 hv hr hD hT hZ
      go_upto_region 7 with (fail)
      go_cut [8] (fun s8 wx => s8 = .int .i64 (BS p f 0) ∧ Below wr.heap.size wr wx)
      case first =>
        have hbd := (Below.refl wr.heap.size wr).drew
        go_region_with (first | (go_at_call 72; refine (J8 p _).mono ?_; rintro e w7 ⟨q, rfl, hq, hb7⟩; have hB7 := Aa hbd hbd.size hb7; have g75 := Ac hB7 t5) | (go_at_call 71; refine (HIX.out _ (Aa HD.out HD.out.size hB7) _ hq).mono ?_; rintro e w8 ⟨rfl, hb8⟩))
        all_goals (go_wp2_with fail; go_meet; exact ⟨rfl, Aa hB7 hB7.size hb8⟩)
      case rest =>
        obtain ⟨rfl, hx⟩ := hcut
        have hDx := Aa HD.out HD.out.size hx
        have HTx := Lib.hid (blk hx HT.out)
        have HZx := Lib.hid (blk hx HZ.out)
        have lZx := lt_of_block HZx.out
        have lTx := lt_of_block HTx.out
        clear t0 t1 t2 t3 t4 t5 t6 z0 z1 z2 z3 z4 z5 z6
        obtain ⟨t0, t1, t2, t3, t4, t5, t6⟩ := Ae HTx.out
        obtain ⟨z0, z1, z2, z3, z4, z5, z6⟩ := Ae HZx.out
        rcases Mh p f 0 with hneg | ⟨j, s', t', hj, hget⟩
        · have hrn : r = none := by rw [← HRR.out]; exact KD hneg
          rw [hneg]
          have HN := Lib.hid hrn
          have HDX := Lib.hid hDx
          clear hneg hrn hDx hx
          go_wp2_with fail
          refine bodyPost_ret (v := .tuple #[.agg #[.int .u8 0, .bool false, .int .i64 0, .string ⟨#[]⟩, .slice none 0 0, .slice none 0 0], .bool false]) (by simp [results, Tryz.results50, go_sem, Ai, z0, z1, z2, z3, z4, z5]) rfl ?_
          exact Du HN.out HDX.out
        · rw [Nat.zero_add] at hj
          have hrs : B5 t' (path.drop (i + 1)) = r := by rw [← HRR.out]; exact (L7 hj hget).symm
          have hjl := FL.get?_some f j _ hget
          rcases HF1.out with h0 | ⟨b1, o1, rfl, _, hb1, hR1⟩
          · omega
          replace hR1 := RF.keep (Same.of_below (hDx.mono hhi)) (Nat.le_refl _) (Nat.le_refl _) f b1 o1 hb1 hR1
          obtain ⟨en, hsn, v0, v1, v2, v3, v4, v5, e0, e1, e2, e3, e4, e5, hvv⟩ := RF.at f b1 o1 j s' t' hR1 hget
          obtain ⟨pk, pb, pn, ps, pa1, pl1, pc1, pa2, pl2, pc2, rfl, rfl, rfl, rfl, rfl, rfl⟩ := RV.open6 hvv
          have hvw := RV.keep (fun b o hb => ((hDx.mono hhi).cell (p := ⟨b, o, none⟩) hb).symm) (Nat.le_refl _) (Nat.le_refl _) t' _ hvv
          rw [hj]
          have HDX := Lib.hid hDx
          have HRS := Lib.hid hrs
          have HVW := Lib.hid hvw
          clear hj hrs hvw hR1 hvv hget hDx hx en
          go_wp2_with fail
          go_roundw
          case rel => exact ⟨i + 1, by go_num, by omega, KE HTx.out HZx.out HDX.out HVW.out HRS.out⟩
          case measure => simp [intOf]; omega
    · by_cases h5 : k = 5
      · subst h5
        have HD := Lib.hid hD
        have HT := Lib.hid hT
        have HZ := Lib.hid hZ
        have HRR := Lib.hid hr
        have HL1 := Lib.hid hL1
        have hLw := HL.out.below hD
        have HAT := Lib.hid (Ph p wr hpsz hLw)
        have HLw := Lib.hid hLw
        clear hF1 hL1 hv hr hD hT hZ h6 hLw
        by_cases hno : ∀ v, Lib.atoiAll p.data.toList ≠ .ok v
        · have hrn : r = none := by rw [← HRR.out]; exact DS (Rn hno)
          have HA : Hid (Calls Tryz.prog 73 #[.string p] wr fun e w' => ∃ z N, e = .returned (.tuple #[.int .i64 z, .iface 199 (.pointer (some ⟨N, 0, none⟩))]) ∧ Below wr.heap.size wr w') := Lib.hid (HAT.out.mono fun e w' ⟨h1, h2⟩ => by
            rcases h1 with ⟨v, hv, _⟩ | ⟨_, z, N, h1⟩
            · exact absurd hv (hno v)
            · exact ⟨z, N, h1, h2⟩)
          have HN := Lib.hid hrn
          clear hrn hno
          go_wp2_with (go_at_call 73; refine (HA.out).mono ?_; rintro e w7 ⟨z, N, rfl, hb⟩; obtain ⟨y0, y1, y2, y3, y4, y5, y6⟩ := Ae (blk hb HZ.out))
          refine bodyPost_ret (v := .tuple #[.agg #[.int .u8 0, .bool false, .int .i64 0, .string ⟨#[]⟩, .slice none 0 0, .slice none 0 0], .bool false]) (by simp [results, Tryz.results50, go_sem, Ai, y0, y1, y2, y3, y4, y5]) rfl ?_
          exact Du HN.out (Aa HD.out HD.out.size hb)
        · obtain ⟨v, hav⟩ : ∃ v, Lib.atoiAll p.data.toList = .ok v := Classical.byContradiction fun h => hno fun v e => h ⟨v, e⟩
          have HA : Hid (Calls Tryz.prog 73 #[.string p] wr fun e w' => e = .returned (.tuple #[.int .i64 v, .nilIface]) ∧ Below wr.heap.size wr w') := Lib.hid (HAT.out.mono fun e w' ⟨h1, h2⟩ => by
            rcases h1 with ⟨v', hv', h1⟩ | ⟨h3, _⟩
            · rw [hav] at hv'; cases hv'; exact ⟨h1, h2⟩
            · exact absurd hav (h3 v))
          have HAV := Lib.hid hav
          clear hno hav HAT
          by_cases hv0 : v < 0
          · have HN : Hid (r = none) := Lib.hid (by rw [← HRR.out]; exact DS (Hr HAV.out (fun h => by omega)))
            go_wp2_with (go_at_call 73; refine (HA.out).mono ?_; rintro e w7 ⟨rfl, hb⟩; obtain ⟨y0, y1, y2, y3, y4, y5, y6⟩ := Ae (blk hb HZ.out))
            refine bodyPost_ret (v := .tuple #[.agg #[.int .u8 0, .bool false, .int .i64 0, .string ⟨#[]⟩, .slice none 0 0, .slice none 0 0], .bool false]) (by simp [results, Tryz.results50, go_sem, Ai, y0, y1, y2, y3, y4, y5]) rfl ?_
            exact Du HN.out (Aa HD.out HD.out.size hb)
          by_cases hvl : (l.len : Int) ≤ v
          · have HN : Hid (r = none) := Lib.hid (by rw [← HRR.out]; exact DS (Hr HAV.out (fun h => by omega)))
            go_wp2_with (go_at_call 73; refine (HA.out).mono ?_; rintro e w7 ⟨rfl, hb⟩; obtain ⟨y0, y1, y2, y3, y4, y5, y6⟩ := Ae (blk hb HZ.out); have t4 := Ac hb t4)
            refine bodyPost_ret (v := .tuple #[.agg #[.int .u8 0, .bool false, .int .i64 0, .string ⟨#[]⟩, .slice none 0 0, .slice none 0 0], .bool false]) (by simp [results, Tryz.results50, go_sem, Ai, y0, y1, y2, y3, y4, y5]) rfl ?_
            exact Du HN.out (Aa HD.out HD.out.size hb)
          obtain ⟨j, rfl⟩ := Int.eq_ofNat_of_zero_le (show 0 ≤ v by omega)
          have hjl : j < l.len := by omega
          have hi64 : I64 (j : Int) := by unfold I64; omega
          have HIT := Lib.hid (fun (w' : World) (hb : Below wr.heap.size wr w') => P3 (j : Int) w' hi64 (HLw.out.below hb))
          obtain ⟨q, hq⟩ : ∃ q : ByteArray, (⟨(Lib.itoa (j : Int)).toArray⟩ : ByteArray) = q := ⟨_, rfl⟩
          rw [hq] at HIT
          have HQ := Lib.hid hq
          clear hq hi64 hv0 hvl
          cases hqp : (q.toList == p.toList) with
          | false =>
            have HN : Hid (r = none) := Lib.hid (by rw [← HRR.out]; exact DS (Hr HAV.out (fun h => by
              have e2 : q.toList = p.toList := by rw [← HQ.out, ByteArray.toList_eq, ByteArray.toList_eq]; exact h.2.2
              rw [e2] at hqp; simp at hqp)))
            have hqp2 : (!(q.toList == p.toList)) = true := by rw [hqp]; rfl
            go_wp2_with (first | (go_at_call 73; refine (HA.out).mono ?_; rintro e w7 ⟨rfl, hb⟩; have t4 := Ac hb t4; have HZ7 := Lib.hid (blk hb HZ.out)) | (go_at_call 74; refine (HIT.out _ hb).mono ?_; rintro e w8 ⟨rfl, hb8⟩; obtain ⟨y0, y1, y2, y3, y4, y5, y6⟩ := Ae (blk hb8 HZ7.out)))
            refine bodyPost_ret (v := .tuple #[.agg #[.int .u8 0, .bool false, .int .i64 0, .string ⟨#[]⟩, .slice none 0 0, .slice none 0 0], .bool false]) (by simp [results, Tryz.results50, go_sem, Ai, y0, y1, y2, y3, y4, y5]) rfl ?_
            exact Du HN.out (Aa (Aa HD.out HD.out.size hb) (Aa HD.out HD.out.size hb).size hb8)
          | true =>
            obtain ⟨t', hget⟩ := VL.get?_lt l j hjl
            have hrs : B5 t' (path.drop (i + 1)) = r := by
              rw [← HRR.out]
              refine (NK (j := j) ?_ hget).symm
              have e1 : q.toList = p.toList := by simpa using hqp
              rw [← HQ.out, ByteArray.toList_eq, ByteArray.toList_eq] at e1
              exact Rm HAV.out (by omega) e1
            rcases HL1.out with h0 | ⟨b1, o1, rfl, _, hb1, hR1⟩
            · omega
            replace hR1 := RL.keep (Same.of_below (HD.out.mono hhi)) (Nat.le_refl _) (Nat.le_refl _) l b1 o1 hb1 hR1
            obtain ⟨v0, v1, v2, v3, v4, v5, e0, e1, e2, e3, e4, e5, hvv⟩ := RL.at l b1 o1 j t' hR1 hget
            obtain ⟨pk, pb, pn, ps, pa1, pl1, pc1, pa2, pl2, pc2, rfl, rfl, rfl, rfl, rfl, rfl⟩ := RV.open6 hvv
            have hvw := RV.keep (fun b o hb => ((HD.out.mono hhi).cell (p := ⟨b, o, none⟩) hb).symm) (Nat.le_refl _) (Nat.le_refl _) t' _ hvv
            have HRS := Lib.hid hrs
            have HVW := Lib.hid hvw
            clear hrs hvw hR1 hvv hget
            have hqp2 : (!(q.toList == p.toList)) = false := by rw [hqp]; rfl
            go_wp2_with (first | (go_at_call 73; refine (HA.out).mono ?_; rintro e w7 ⟨rfl, hb⟩; have t4 := Ac hb t4) | (go_at_call 74; refine (HIT.out _ hb).mono ?_; rintro e w8 ⟨rfl, hb8⟩; have hB8 := Aa hb hb.size hb8; have t4 := Ac hb8 t4; have e0 := Ac hB8 e0; have e1 := Ac hB8 e1; have e2 := Ac hB8 e2; have e3 := Ac hB8 e3; have e4 := Ac hB8 e4; have e5 := Ac hB8 e5; have HT8 := Lib.hid (blk hB8 HT.out); have HZ8 := Lib.hid (blk hB8 HZ.out); obtain ⟨x0, x1, x2, x3, x4, x5, x6⟩ := Ae HT8.out))
            go_roundw
            case rel => exact ⟨i + 1, by go_num, by omega, KE HT8.out HZ8.out (Aa HD.out HD.out.size hB8) HVW.out HRS.out⟩
            case measure => simp [intOf]; omega
      · have HN : Hid (r = none) := Lib.hid (by rw [← hr]; exact MC h5 h6)
        have g5 : (k == 5) = false := by simpa using h5
        have g6 : (k == 6) = false := by simpa using h6
        have HD := Lib.hid hD
        clear hF1 hL1 hv hr hD hT hZ h5 h6
        go_wp2_with fail
        refine bodyPost_ret (v := .tuple #[.agg #[.int .u8 0, .bool false, .int .i64 0, .string ⟨#[]⟩, .slice none 0 0, .slice none 0 0], .bool false]) (by simp [results, Tryz.results50, go_sem, Ai, z0, z1, z2, z3, z4, z5]) rfl ?_
        exact Du HN.out (HD.out)
  · have hie : path.drop i = [] := List.drop_of_length_le (by omega)
    rw [hie, B5] at hr
    have HC := Lib.hid (JB (.mk k b n s l f) wr _ hi (RV.below hv (hD.mono hhi)) (Nat.le_trans hhi hD.size))
    have HR := Lib.hid hr
    have HD := Lib.hid hD
    have HZ := Lib.hid hZ
    clear hr hie hv hL1 hF1 hD hZ hT
    go_wp2_with (go_at_call 75; refine (HC.out).mono ?_; rintro e w7 ⟨k7, b7, n7, s7, a71, l71, c71, a72, l72, c72, rfl, hv7, hb⟩; obtain ⟨y0, y1, y2, y3, y4, y5, y6⟩ := Ae (blk hb HZ.out))
    refine bodyPost_ret (v := .tuple #[.agg #[.int .u8 k7, .bool b7, .int .i64 n7, .string s7, .slice a71 l71 c71, .slice a72 l72 c72], .bool true]) (by simp [results, Tryz.results50, go_sem, Ai, y0, y1, y2, y3, y4, y5]) rfl ?_
    exact Rc HR.out.symm HD.out lZ hb hv7
end Go.Proofs.YtbemgcjckchdjaaGreatDoor
