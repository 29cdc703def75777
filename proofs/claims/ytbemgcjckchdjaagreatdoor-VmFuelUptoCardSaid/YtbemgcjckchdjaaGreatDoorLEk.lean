import Derived.Test.YtbemgcjckchdjaaGreatDoorLEj
/- expr.leaf. -/
namespace Go.Proofs.YtbemgcjckchdjaaGreatDoor
open Go.RowKit
set_option linter.unusedSimpArgs false
set_option linter.unusedVariables false
def Be (s : ST) : Prop := I64 s.n ∧ s.t.size ≤ LIM ∧ 0 ≤ s.k
def CA (w : World) (F : VT → Rz) (e : Ending) (w' : World) : Prop := Below w.heap.size w w' ∧ ∃ v, e = .returned v ∧ v.oneCell' = true ∧ ∀ S : Nat → Prop, (∀ b, S b → b < w.heap.size) → Node S w' v F
theorem Dl {w w' : World} {k : Int} {b : Bool} {n : Int} {s : ByteArray} (hb : Below w.heap.size w w') (hv : ∀ (w' : World) lo hi, RV w' lo hi (.mk k b n s .nil .nil) [.int .u8 k, .bool b, .int .i64 n, .string s, .slice none 0 0, .slice none 0 0]) :
 CA w (fun _ => (.mk k b n s .nil .nil, 0)) (.returned (.iface 121 (.agg #[.int .u8 k, .bool b, .int .i64 n, .string s, .slice none 0 0, .slice none 0 0]))) w' := ⟨hb, _, rfl, rfl, fun S _ => JV S w' k b n s hv⟩
section
set_option maxHeartbeats 1000000
variable (t : ByteArray) (n : Int) (w : World)
theorem NS : Calls Tryz.prog 68 #[.agg #[.int .u8 2, .string t, .int .i64 n]] w (CA w fun _ => (AK true, 0)) := by
 have hD := Ad (w := w) (.cells #[.int .u8 2, .string t, .int .i64 n] 43)
 have HD := Lib.hid hD
 clear hD
 go_enter Tryz.func68, Tryz.ntmps68
 go_wp2_with (go_at_call 96; refine (B6 _ _).mono ?_; rintro e w4 ⟨rfl, hb4⟩; have HB4 := Lib.hid (Aa HD.out HD.out.size hb4); clear hb4)
 go_ret
 exact Dl HB4.out (fun w' lo hi => FB true w')
theorem MN : Calls Tryz.prog 68 #[.agg #[.int .u8 3, .string t, .int .i64 n]] w (CA w fun _ => (AK false, 0)) := by
 have hD := Ad (w := w) (.cells #[.int .u8 3, .string t, .int .i64 n] 43)
 have HD := Lib.hid hD
 clear hD
 go_enter Tryz.func68, Tryz.ntmps68
 go_wp2_with (go_at_call 96; refine (B6 _ _).mono ?_; rintro e w4 ⟨rfl, hb4⟩; have HB4 := Lib.hid (Aa HD.out HD.out.size hb4); clear hb4)
 go_ret
 exact Dl HB4.out (fun w' lo hi => FB false w')
theorem P6 (hn : I64 n) : Calls Tryz.prog 68 #[.agg #[.int .u8 4, .string t, .int .i64 n]] w (CA w fun _ => (CQ n, 0)) := by
 have HN := Lib.hid hn
 clear hn
 go_enter Tryz.func68, Tryz.ntmps68
 go_wp2_with fail
 go_ret
 exact Dl (Ad _) (fun w' lo hi => Gu n HN.out w')
theorem NR (ht : t.size ≤ LIM) : Calls Tryz.prog 68 #[.agg #[.int .u8 5, .string t, .int .i64 n]] w (CA w fun _ => (Kk t, 0)) := by
 have HN := Lib.hid ht
 clear ht
 go_enter Tryz.func68, Tryz.ntmps68
 go_wp2_with fail
 go_ret
 exact Dl (Ad _) (fun w' lo hi => RB t HN.out w')
theorem NP (k : Int) (k2 : (k == 2) = false) (k3 : (k == 3) = false) (k4 : (k == 4) = false) (k5 : (k == 5) = false) (k6 : (k == 6) = false) : Calls Tryz.prog 68 #[.agg #[.int .u8 k, .string t, .int .i64 n]] w (CA w fun _ => (Am, 0)) := by
 go_enter Tryz.func68, Tryz.ntmps68
 go_wp2_with fail
 go_ret
 exact Dl (Ad _) (fun w' lo hi => Mu w')
theorem NQ (ht : t.size ≤ 1024) (hL : Laid w) : Calls Tryz.prog 68 #[.agg #[.int .u8 6, .string t, .int .i64 n]] w (CA w fun row => ((B5 row (Aw t dot)).getD Am, 0)) := by
 have hD := Ad (w := w) (.cells #[.int .u8 6, .string t, .int .i64 n] 43)
 have HSP := Lib.hid (DI t dot _ (by unfold LIM; omega) (by decide) (hL.below hD))
 have hlen : (Aw t dot).length ≤ LIM := by
  rw [C8 t dot (by decide)]
  have := Lib.countB_le dot (by decide) t.size t (Nat.le_refl _)
  unfold LIM
  omega
 have hsz : ∀ p ∈ Aw t dot, p.size ≤ LIM := fun p hp => by
  have := C9 dot _ t p hp
  unfold LIM
  omega
 have HLN := Lib.hid hlen
 have HSZ := Lib.hid hsz
 have HD := Lib.hid hD
 unfold dot at HSP
 clear hD hlen hsz ht hL
 go_enter Tryz.func68, Tryz.ntmps68
 go_wp2_with (go_at_call 57; refine (HSP.out).mono ?_; rintro e w4 ⟨g, rfl, hc4, hg4, hl4, hb4⟩; have HC4 := Lib.hid hc4; have HB4 := Lib.hid (Aa HD.out HD.out.size hb4); have HG4 := Lib.hid (Nat.le_trans HD.out.size hg4); have HL4 := Lib.hid hl4; clear hc4 hb4 hg4 hl4)
 go_ret
 refine ⟨HB4.out, _, rfl, rfl, fun S hS => ⟨_, _, _, rfl, NT _, fun w' row v0 v1 v2 v3 v4 v5 hl hL' hr => ?_⟩⟩
 refine LK (Aw t dot) _ _ row v0 v1 v2 v3 v4 v5 w' hr hL' HLN.out HSZ.out (Or.inr ⟨g, 0, rfl, Nat.lt_of_lt_of_le HL4.out hl.1, fun i hi => ?_⟩)
 rw [Nat.zero_add]
 have hne : ¬ S g := fun h => by have := hS g h; have := HG4.out; omega
 exact (World.cell?_of_block (a := ⟨g, i, none⟩) (hl.2 g HL4.out hne)).trans (HC4.out i hi)
end
theorem MM (s : ST) (w : World) (hs : Be s) (h6 : s.k = 6 → s.t.size ≤ 1024) (hL : Laid w) : Calls Tryz.prog 68 #[.agg #[.int .u8 s.k, .string s.t, .int .i64 s.n]] w (CA w (F0 s)) := by
 obtain ⟨k, t, n⟩ := s
 have e : F0 ⟨k, t, n⟩ = fun row => if k = 2 ∨ k = 3 then (AK (k == 2), 0) else if k = 4 then (CQ n, 0) else if k = 5 then (Kk t, 0) else if k = 6 then ((B5 row (Aw t dot)).getD Am, 0) else (Am, 0) := rfl
 rw [e]
 obtain ⟨hn, ht, _⟩ := hs
 by_cases k2 : k = 2
 · subst k2; exact NS t n w
 by_cases k3 : k = 3
 · subst k3; exact MN t n w
 simp only [k2, k3, or_self, if_false]
 by_cases k4 : k = 4
 · subst k4; exact P6 t n w hn
 simp only [k4, if_false]
 by_cases k5 : k = 5
 · subst k5; exact NR t n w ht
 simp only [k5, if_false]
 by_cases k6 : k = 6
 · subst k6; exact NQ t n w (h6 rfl) hL
 simp only [k6, if_false]
 exact NP t n w k (by simpa using k2) (by simpa using k3) (by simpa using k4) (by simpa using k5) (by simpa using k6)
/- slices.Clone of nodes; expr.one. -/
theorem Tryz.infoN : (Tryz.prog.info? 61).map (fun i => (i.zero, i.size, i.bytes)) = some (some .nilIface, 1, 16) := by kernel_rfl
set_option maxHeartbeats 1000000 in
set_option maxRecDepth 100000 in
theorem Mg (w : World) (xs : List Value) (a : Option Addr) (c : Nat) (hl : xs.length ≤ 1000) (h0 : a = none → xs.length = 0) (hx2 : ∀ ad, a = some ad → ∀ j u, xs[j]? = some u → w.cell? (ad.add j) = some u) (hx3 : ∀ u ∈ xs, u.oneCell' = true) :
   Calls Tryz.prog 44 #[.slice a xs.length c] w fun x w' => ∃ v, x = .returned v ∧ w'.ownsRow w.heap.size 61 1 v xs.length xs ∧ Below w.heap.size w w' := by
 cases a with
 | none =>
   have e0 := h0 rfl
   have HE := Lib.hid e0
   rw [e0]
   clear h0 hx2 hx3 e0 hl
   have hnil : ∀ w : World, (binOp .eql 98 (.slice none 0 c) (.slice none 0 0)).run Tryz.prog w = .ok (.bool true) w := fun w => Lib.run_eql_slice_nil w 98 61 none 0 c 0 0 Tryz.underlying98
   go_enter Tryz.func44, Tryz.ntmps44
   go_wp2_with fail
   go_ret
   exact ⟨.slice none 0 0, rfl, ⟨by rw [HE.out], Or.inl ⟨rfl, rfl⟩⟩, Below.refl _ _⟩
 | some ad =>
   obtain ⟨n, hn⟩ : ∃ n, xs.length = n := ⟨_, rfl⟩
   rw [hn] at hl ⊢
   obtain ⟨i0, hi0, hz0, hz1, hz2⟩ := info_parts Tryz.infoN
   have HX : Hid (xs.length = n * 1) := Lib.hid (by omega)
   have H2 := Lib.hid (hx2 ad rfl)
   have H3 := Lib.hid hx3
   clear h0 hx2 hx3 hn
   have hnil : ∀ w : World, (binOp .eql 98 (.slice (some ad) n c) (.slice none 0 0)).run Tryz.prog w = .ok (.bool false) w := fun w => Lib.run_eql_slice_nil w 98 61 (some ad) n c 0 0 Tryz.underlying98
   go_enter Tryz.func44, Tryz.ntmps44
   go_wp2_with (at_builtin; refine wpList_append_own _ rfl _ _ 98 rfl w.heap.size 61 i0 .nilIface 1 16 Tryz.underlying98 hi0 hz0 hz1 hz2 rfl (by decide) _ 0 [] rfl (F4 w 61 1) ad n c xs rfl HX.out (fun j u e => Kf ((Below.refl w.heap.size w).alloc (Nat.le_refl _) _) (H2.out j u e)) H3.out (by unfold maxLen; omega) (by omega) (by simp) ?_; intro v' w1 hown hgrow hiff)
   go_ret
   have hbw : Below w.heap.size w w1 := (((Below.refl w.heap.size w).alloc (Nat.le_refl _) (.cells #[] 61))).grown hgrow (by simp) (fun k hk => by cases hk; exact Nat.le_refl _)
   exact ⟨v', rfl, by simpa using hown, hbw⟩
def Co (s : ST) (fs : List (VT → Rz)) : VT → Rz := fun row => AX s row (fs.map fun f => f row)
def Da (S : Nat → Prop) (w : World) (F : VT → Rz) (e : Ending) (w' : World) : Prop := Below w.heap.size w w' ∧ ∃ v, e = .returned v ∧ v.oneCell' = true ∧ Node S w' v F
section
set_option maxHeartbeats 1000000
set_option maxRecDepth 100000
theorem PL (S : Nat → Prop) (s : ST) (c : Nat) (A : Option Addr) (w : World) (hs : Be s) (h6 : s.k = 6 → s.t.size ≤ 1024) (hL : Laid w) (hS : ∀ b, S b → b < w.heap.size) (h7 : s.k ≠ 7) (h8 : s.k ≠ 8) (h21 : s.k ≠ 21) (h22 : s.k ≠ 22) :
  Calls Tryz.prog 43 #[.agg #[.int .u8 s.k, .string s.t, .int .i64 s.n], .slice A 0 c] w (Da S w (Co s [])) := by
 have hD := Ad (w := w) (.cells #[.int .u8 s.k, .string s.t, .int .i64 s.n] 43)
 have H := Lib.hid (MM s _ hs h6 (hL.below hD))
 have HD := Lib.hid hD
 have HS := Lib.hid hS
 have e : Co s [] = F0 s := by
  funext row
  unfold Co AX
  rw [if_neg h7, if_neg h8, if_neg (by omega)]
  rfl
 rw [e]
 obtain ⟨k, t, n⟩ := s
 simp only at h7 h8 h21 h22
 have q7 : (k == 7) = false := by simpa using h7
 have q8 : (k == 8) = false := by simpa using h8
 have q21 : (k == 21) = false := by simpa using h21
 have q22 : (k == 22) = false := by simpa using h22
 clear hs h6 hL hS h7 h8 h21 h22 e hD
 go_enter Tryz.func43, Tryz.ntmps43
 go_wp2_with (go_at_call 68; refine (H.out).mono ?_; rintro e w4 ⟨hb4, v, rfl, hv1, hv⟩; have HB4 := Lib.hid (Aa HD.out HD.out.size hb4); have HV := Lib.hid hv; have HV1 := Lib.hid hv1; clear hb4 hv hv1)
 go_ret
 exact ⟨HB4.out, v, rfl, HV1.out, HV.out S (fun b hb => Nat.lt_of_lt_of_le (HS.out b hb) HD.out.size)⟩
theorem La (S : Nat → Prop) (s : ST) (fs : List (VT → Rz)) (c : Nat) (A : Option Addr) (w : World) (hN : NodeRow S w fs A) (hk : (9 ≤ s.k ∧ s.k ≤ 11 ∧ fs.length = 1) ∨ (12 ≤ s.k ∧ s.k ≤ 20 ∧ fs.length = 2)) :
  Calls Tryz.prog 43 #[.agg #[.int .u8 s.k, .string s.t, .int .i64 s.n], .slice A fs.length c] w (Da S w (Co s fs)) := by
 have hD := Ad (w := w) (.cells #[.int .u8 s.k, .string s.t, .int .i64 s.n] 43)
 have HD := Lib.hid hD
 have HN := Lib.hid hN
 have e : Co s fs = fun row => Dm s.k (fs.map fun f => f row) := by
  funext row
  unfold Co AX
  have hne : (fs.map fun f => f row).isEmpty = false := by
   cases fs with
   | nil => simp at hk
   | cons a b => rfl
  rw [if_neg (by omega), if_neg (by omega), if_neg (by omega), if_neg (by rw [hne]; simp)]
 rw [e]
 have HK := Lib.hid hk
 obtain ⟨k, t, n⟩ := s
 simp only at hk ⊢
 have q7 : (k == 7) = false := by simp; omega
 have q8 : (k == 8) = false := by simp; omega
 have q21 : (k == 21) = false := by simp; omega
 have q22 : (k == 22) = false := by simp; omega
 have q0 : ((fs.length : Int) == 0) = false := by simp; intro h; simp [h] at hk
 have l0 : fs.length ≤ 2 := by omega
 clear hN hk e hD
 go_enter Tryz.func43, Tryz.ntmps43
 go_wp2_with fail
 go_ret
 refine ⟨HD.out, _, rfl, rfl, _, _, _, rfl, FV _, fun w' row v0 v1 v2 v3 v4 v5 hl hL' hr => ?_⟩
 exact Jd S k fs A c row v0 v1 v2 v3 v4 v5 w' HK.out ((HN.out.later (Later.of_below HD.out)).later hl) hL' hr
theorem Of (S : Nat → Prop) (s : ST) (f g : VT → Rz) (c : Nat) (A : Option Addr) (w : World) (hN : NodeRow S w [f, g] A) (hk : s.k = 21 ∨ s.k = 22) (hc : 2 ≤ c) :
   Calls Tryz.prog 43 #[.agg #[.int .u8 s.k, .string s.t, .int .i64 s.n], .slice A 2 c] w (Da S w (Co s [f, g])) := by
 have hD := Ad (w := w) (.cells #[.int .u8 s.k, .string s.t, .int .i64 s.n] 43)
 have hX := Ab w (.cells #[.int .u8 s.k, .string s.t, .int .i64 s.n] 43)
 have hN2 := hN.later (Later.of_below (S := S) hD)
 have HD := Lib.hid hD
 have e : Co s [f, g] = fun row => B3 (s.k == 22) (f row) (g row) := by
   funext row
   unfold Co AX
   rw [if_neg (by omega), if_neg (by omega), if_pos hk]
   rfl
 rw [e]
 rcases hN2 with h0 | ⟨b, o, rfl, hb, hSb, hcc⟩
 · cases h0
 obtain ⟨va, ha, hna⟩ := hcc 0 (by simp)
 obtain ⟨vb, hb2, hnb⟩ := hcc 1 (by simp)
 simp only [Nat.add_zero, List.getElem_cons_zero, List.getElem_cons_succ] at ha hb2 hna hnb
 have HNA := Lib.hid hna
 have HNB := Lib.hid hnb
 obtain ⟨Ta, xa, fa, rfl, _⟩ := hna
 obtain ⟨Tb, xb, fb, rfl, _⟩ := hnb
 obtain ⟨k, t, n⟩ := s
 simp only at hk ⊢ hX ha hb2 HD HNA HNB
 have q7 : (k == 7) = false := by simp; omega
 have q8 : (k == 8) = false := by simp; omega
 have lw : w.heap.size < (w.alloc (.cells #[.int .u8 k, .string t, .int .i64 n] 43)).heap.size := by simp
 clear hN e hD hcc hSb
 go_enter Tryz.func43, Tryz.ntmps43
 go_upto_region 1 with (fail)
 generalize w.alloc (.cells #[.int .u8 k, .string t, .int .i64 n] 43) = W at *
 obtain ⟨x0, x1, x2, x3⟩ := Ak hX
 clear hX
 have HKK := Lib.hid hk
 rcases hk with rfl | rfl
 all_goals
   go_upto_region 6 with (fail)
   go_quiet (fail)
   go_wp2_with fail
   go_ret
   refine ⟨HD.out.trans ((Al _ _).mono HD.out.size), _, rfl, rfl, _, _, _, rfl, MP _, fun w' row v0 v1 v2 v3 v4 v5 hl hL' hr => ?_⟩
   have hl2 : Later S W w' := Later.trans ⟨Nat.le_refl _, fun _ _ _ => rfl⟩ hl
   exact LD S _ Ta xa Tb xb f g row v0 v1 v2 v3 v4 v5 w' (HNA.out.later hl2) (HNB.out.later hl2) hL' hr
end
/- expr.tree, of steps that make no list and no struct. -/
def FF (fs : List (VT → Rz)) (s : ST) : List (VT → Rz) := fs.take (fs.length - s.takes.toNat) ++ [Co s (fs.drop (fs.length - s.takes.toNat))]
def Dr (l : List ST) : List (VT → Rz) := l.foldl FF []
theorem OD (row : VT) (fs : List (VT → Rz)) (s : ST) : (FF fs s).map (fun f => f row) = BV row (fs.map fun f => f row) s := by
 unfold FF BV
 rw [List.map_append, List.length_map, List.map_take, List.map_cons, List.map_nil]
 unfold Co
 rw [List.map_drop]
theorem I5 (row : VT) : ∀ (l : List ST) (fs : List (VT → Rz)), (l.foldl FF fs).map (fun f => f row) = B4 row l (fs.map fun f => f row)
 | [], fs => rfl
 | s :: l, fs => by
   rw [List.foldl_cons, I5 row l (FF fs s), OD]
   rfl
theorem LS (l : List ST) (i : Nat) (h : i < l.length) : Dr (l.take (i + 1)) = FF (Dr (l.take i)) l[i] := by
 unfold Dr
 rw [List.take_succ_eq_append_getElem h, List.foldl_append]
 rfl
theorem Node.move {S S' : Nat → Prop} {w w2 : World} {v : Value} {F : VT → Rz} (h : Node S w v F) (hs : w.heap.size ≤ w2.heap.size) (hb : ∀ b, b < w.heap.size → ¬ S b → w2.heap[b]? = w.heap[b]? ∧ ¬ S' b) : Node S' w2 v F := by
 obtain ⟨T, x, fn, e, hm, hc⟩ := h
 refine ⟨T, x, fn, e, hm, fun w' row v0 v1 v2 v3 v4 v5 hl => hc w' row v0 v1 v2 v3 v4 v5 ⟨Nat.le_trans hs hl.1, fun b hlt hns => ?_⟩⟩
 obtain ⟨h1, h2⟩ := hb b hlt hns
 exact (hl.2 b (Nat.lt_of_lt_of_le hlt hs) h2).trans h1
def Kp (w wr : World) (fs : List (VT → Rz)) (sv : Value) : Prop :=
 ∃ vals, wr.ownsRow w.heap.size 61 1 sv fs.length vals ∧ (∀ u ∈ vals, u.oneCell' = true) ∧ (∀ j (h : j < fs.length), ∃ v, vals[j]? = some v ∧ Node (fun b => sv.ownBlock = some b) wr v fs[j]) ∧ Below w.heap.size w wr
theorem GX {w : World} {B : Nat} {T : TypeId} {g n m cap : Nat} {xs : List Value} (h : w.ownsRow B T 1 (.slice (some ⟨g, 0, none⟩) n cap) n xs) (hm : m ≤ n) : w.ownsRow B T 1 (.slice (some ⟨g, 0, none⟩) m cap) m (xs.take m) := by
 rcases h.2 with ⟨h0, _⟩ | ⟨g', cap', cur, e, hB, hg, h1, h2, hcs, htk⟩
 · cases h0
 · cases e
   refine ⟨by rw [List.length_take, h.1]; omega, Or.inr ⟨g, cap, cur, rfl, hB, hg, by omega, h2, hcs, ?_⟩⟩
   rw [← htk, List.take_take]
   congr 1
   omega
theorem Ep {W : World} {v : Value} {T : TypeId} : ∀ j u, [v][j]? = some u → (W.alloc (.cells #[v] T)).cell? ((⟨W.heap.size, 0, none⟩ : Addr).add j) = some u := by
 intro j u hj
 have h := (D8 (Ab W (.cells #[v] T))).1
 rw [AS, Nat.zero_add]
 match j, hj with
 | 0, hj => cases hj; exact h
theorem OQ {w wr w9 w2 : World} {fs : List (VT → Rz)} {g at' q r g' cap' : Nat} {vals : List Value} {v9 : Value} {F : VT → Rz} {o : Obj} (hO : wr.ownsRow w.heap.size 61 1 (.slice (some ⟨g, 0, none⟩) (at' + q) (at' + r)) (at' + q) vals) (hfl : fs.length = at' + q) (hone : ∀ u ∈ vals, u.oneCell' = true)
   (hV : ∀ j (h : j < fs.length), ∃ v, vals[j]? = some v ∧ Node (fun b => (Value.slice (some (⟨g, 0, none⟩ : Addr)) (at' + q) (at' + r)).ownBlock = some b) wr v fs[j]) (hB : Below w.heap.size w wr) (h9 : Below wr.heap.size wr w9) (hv9 : v9.oneCell' = true) (hn9 : Node (fun b => (Value.slice (some (⟨g, 0, none⟩ : Addr)) (at' + q) (at' + r)).ownBlock = some b) w9 v9 F)
   (hgrow : (w9.alloc o).grownBy w2 (Value.slice (some ⟨g, 0, none⟩) at' (at' + r)).ownBlock) (hown : w2.ownsRow w.heap.size 61 1 (.slice (some ⟨g', 0, none⟩) (at' + 1) cap') (at' + 1) (vals.take at' ++ [v9])) (hat : (Value.slice (some ⟨g, 0, none⟩) at' (at' + r)).ownBlock = some g' ∨ g' = w9.heap.size + 1) :
   Kp w w2 (fs.take at' ++ [F]) (.slice (some ⟨g', 0, none⟩) (at' + 1) cap') := by
 have lg : g < wr.heap.size := (hO.lt g rfl).2
 have hg0 : w.heap.size ≤ g := (hO.lt g rfl).1
 have s9 := h9.size
 have s2 := hgrow.size
 have sa : (w9.alloc o).heap.size = w9.heap.size + 1 := by simp
 rw [sa] at s2
 have hlv : vals.length = at' + q := by have := hO.1; omega
 have hft : (fs.take at').length = at' := by rw [List.length_take]; omega
 have keep9 : ∀ b, b < w9.heap.size → b ≠ g → w2.heap[b]? = w9.heap[b]? ∧ ¬ ((Value.slice (some (⟨g', 0, none⟩ : Addr)) (at' + 1) cap').ownBlock = some b) := fun b hb hne => by
   refine ⟨(hgrow.block b (by omega) (fun e => hne (Option.some.inj e))).trans (Below.heap_alloc w9 o b hb), fun e => ?_⟩
   have e2 : g' = b := Option.some.inj e
   rcases hat with h | h
   · have e3 : g = g' := Option.some.inj h
     omega
   · omega
 refine ⟨vals.take at' ++ [v9], by rw [List.length_append, hft]; exact hown, fun u hu => ?_, fun j hj => ?_, ?_⟩
 · rcases List.mem_append.1 hu with h | h
   · exact hone u (List.mem_of_mem_take h)
   · simp only [List.mem_singleton] at h
     subst h; exact hv9
 · rw [List.length_append, hft] at hj
   by_cases hja : j < at'
   · obtain ⟨v, hv, hn⟩ := hV j (by omega)
     refine ⟨v, ?_, ?_⟩
     · rw [List.getElem?_append_left (by rw [List.length_take]; omega), List.getElem?_take_of_lt hja]; exact hv
     · have e : (fs.take at' ++ [F])[j]'(by rw [List.length_append, hft]; exact hj) = fs[j]'(by omega) := by
        rw [List.getElem_append_left (by omega)]; exact List.getElem_take
       rw [e]
       refine hn.move (by omega) (fun b hb hs => ?_)
       have hne : b ≠ g := fun h => hs (by rw [h]; rfl)
       obtain ⟨k1, k2⟩ := keep9 b (by omega) hne
       exact ⟨k1.trans (h9.block b hb), k2⟩
   · have hje : j = at' := by simp at hj; omega
     subst hje
     refine ⟨v9, ?_, ?_⟩
     · rw [List.getElem?_append_right (by rw [List.length_take]; omega), List.length_take, hlv, Nat.min_eq_left (by omega), Nat.sub_self]; rfl
     · have e : (fs.take j ++ [F])[j]'(by rw [List.length_append, hft]; exact hj) = F := by
        rw [List.getElem_append_right (by omega)]
        simp [hft]
       rw [e]
       refine hn9.move (by omega) (fun b hb hs => ?_)
       have hne : b ≠ g := fun h => hs (by rw [h]; rfl)
       exact keep9 b hb hne
 · have h1 := Aa hB hB.size h9
   exact (h1.alloc h1.size o).grown hgrow (by rw [sa]; have := h1.size; omega) (fun k hk => by cases hk; exact hg0)
theorem N3 {w wr w9 w2 : World} {g' cap' : Nat} {v9 : Value} {F : VT → Rz} {o : Obj} (hB : Below w.heap.size w wr) (h9 : Below wr.heap.size wr w9) (hv9 : v9.oneCell' = true) (hn9 : Node (fun _ => False) w9 v9 F)
   (hgrow : (w9.alloc o).grownBy w2 (Value.slice none 0 0).ownBlock) (hown : w2.ownsRow w.heap.size 61 1 (.slice (some ⟨g', 0, none⟩) (0 + 1) cap') (0 + 1) ([] ++ [v9])) (hat : (Value.slice none 0 0).ownBlock = some g' ∨ g' = w9.heap.size + 1) :
   Kp w w2 ([].take 0 ++ [F]) (.slice (some ⟨g', 0, none⟩) (0 + 1) cap') := by
 have s9 := h9.size
 have s2 := hgrow.size
 have sa : (w9.alloc o).heap.size = w9.heap.size + 1 := by simp
 rw [sa] at s2
 have hg' : g' = w9.heap.size + 1 := hat.elim (fun h => by cases h) id
 refine ⟨[v9], hown, fun u hu => by simp only [List.mem_singleton] at hu; subst hu; exact hv9, fun j hj => ?_, ?_⟩
 · obtain rfl : j = 0 := by simpa using hj
   refine ⟨v9, rfl, hn9.move (by omega) (fun b hb _ => ⟨(hgrow.block b (by omega) (fun e => by cases e)).trans (Below.heap_alloc w9 o b hb), fun e => ?_⟩)⟩
   have e2 : g' = b := Option.some.inj e
   omega
 · have h1 := Aa hB hB.size h9
   exact (h1.alloc h1.size o).grown hgrow (by rw [sa]; have := h1.size; omega) (fun k hk => by cases hk)
theorem Fp {w : World} {o : Obj} : (w.alloc o).heap[w.heap.size]? = some o := Ab w o
theorem JL : ∀ (l : List ST) (m0 m : Int), (∀ s ∈ l, s.ok = true → 0 ≤ s.takes) → l.foldl As (some m0) = some m → m ≤ m0 + l.length
 | [], m0, m, _, h => by cases h; simp
 | s :: l, m0, m, hs, h => by
   rw [List.foldl_cons] at h
   by_cases hc : (s.ok && decide (s.takes ≤ m0)) = true
   · have e : As (some m0) s = some (m0 - (s.takes - 1)) := if_pos hc
     rw [e] at h
     have ih := JL l _ m (fun x hx => hs x (List.mem_cons_of_mem _ hx)) h
     have := hs s (List.mem_cons_self ..) (by simp only [Bool.and_eq_true] at hc; exact hc.1)
     simp only [List.length_cons]
     push_cast
     omega
   · have e : As (some m0) s = none := if_neg hc
     rw [e, Eu] at h
     cases h
theorem Ll (l : List ST) (m : Int) (h : AG l = some m) : m ≤ l.length := by
 have := JL l 0 m (fun s _ hok => (Bn s hok).1) h
 omega
theorem Na {t : ByteArray} (h : DZ t = true) : t.size ≤ 1024 := by
 unfold DZ at h
 simp only [Bool.and_eq_true, decide_eq_true_eq] at h
 exact h.2
theorem Rw {s : ST} (h : s.ok = true) (h6 : s.k = 6) : s.t.size ≤ 1024 := by
 unfold ST.ok AC at h
 simp only [Bool.and_eq_true, h6] at h
 exact Na (by simpa using h.1)
/- expr.Eval, expr.Holds, of steps that make no list and no struct. -/
def SH (l : List ST) : Prop := Av l = true → ∀ s ∈ l, s.k ≠ 7 ∧ s.k ≠ 8
theorem Qx {l : List ST} {F : VT → Rz} (h : Dr l = [F]) (row : VT) : Bm row l = F row := by
 have := I5 row l []
 unfold Bm
 rw [List.map_nil] at this
 rw [← this]
 unfold Dr at h
 rw [h]
 rfl
section
set_option maxHeartbeats 2000000
set_option maxRecDepth 100000
variable (l : List ST) (a : Option Addr) (c : Nat) (kr : Int) (br : Bool) (nr : Int) (sr : ByteArray) (ar1 : Option Addr) (lr : VL) (cr1 : Nat) (ar2 : Option Addr) (fr : FL) (cr2 : Nat) (w : World)
theorem L5 (hR : ∀ w', Below w.heap.size w w' → Calls Tryz.prog 23 #[.slice a l.length c] w' fun e w2 => e = .returned (.bool false) ∧ Below w'.heap.size w' w2) :
  Calls Tryz.prog 9 #[.slice a l.length c, .agg #[.int .u8 kr, .bool br, .int .i64 nr, .string sr, .slice ar1 lr.len cr1, .slice ar2 fr.len cr2]] w (EvPost w (Am, 13)) := by
 have HR := Lib.hid hR
 have hD := Aj (w := w) (.cells #[.int .u8 kr, .bool br, .int .i64 nr, .string sr, .slice ar1 lr.len cr1, .slice ar2 fr.len cr2] 27) Ah
 have hZ : ((w.alloc (.cells #[.int .u8 kr, .bool br, .int .i64 nr, .string sr, .slice ar1 lr.len cr1, .slice ar2 fr.len cr2] 27)).alloc Ah).heap[w.heap.size + 1]? = some Ah := by
  have := Ab (w.alloc (.cells #[.int .u8 kr, .bool br, .int .i64 nr, .string sr, .slice ar1 lr.len cr1, .slice ar2 fr.len cr2] 27)) Ah
  simpa using this
 have HD := Lib.hid hD
 have HZ := Lib.hid hZ
 clear hR hD hZ
 go_enter Tryz.func9, Tryz.ntmps9
 go_wp2_with (go_at_call 23; refine (HR.out _ HD.out).mono ?_; rintro e w7 ⟨rfl, hb7⟩; obtain ⟨z0, z1, z2, z3, z4, z5, z6⟩ := Ae (blk hb7 HZ.out); have HB7 := Lib.hid (Aa HD.out HD.out.size hb7); clear hb7)
 refine bodyPost_ret (v := .tuple #[Bs, .int .i64 13]) (by simp [results, Tryz.results9, go_sem, Ai, z0, z1, z2, z3, z4, z5]) rfl ?_
 exact Bx (Ag (Nat.le_succ _) [_, _, _, _, _, _] 0 _ HB7.out)
theorem M9 (y : Int) (hy : (y != 0) = true) (hR : ∀ w', Below w.heap.size w w' → Calls Tryz.prog 23 #[.slice a l.length c] w' fun e w2 => e = .returned (.bool true) ∧ Below w'.heap.size w' w2)
  (hC : ∀ w', Below w.heap.size w w' → Calls Tryz.prog 17 #[.agg #[.int .u8 kr, .bool br, .int .i64 nr, .string sr, .slice ar1 lr.len cr1, .slice ar2 fr.len cr2]] w' fun e w2 => e = .returned (.int .i64 y) ∧ Below w'.heap.size w' w2) :
  Calls Tryz.prog 9 #[.slice a l.length c, .agg #[.int .u8 kr, .bool br, .int .i64 nr, .string sr, .slice ar1 lr.len cr1, .slice ar2 fr.len cr2]] w (EvPost w (Am, y)) := by
 have HR := Lib.hid hR
 have HC := Lib.hid hC
 have hD := Aj (w := w) (.cells #[.int .u8 kr, .bool br, .int .i64 nr, .string sr, .slice ar1 lr.len cr1, .slice ar2 fr.len cr2] 27) Ah
 have hX := Af (o := Ah) (Ab w (.cells #[.int .u8 kr, .bool br, .int .i64 nr, .string sr, .slice ar1 lr.len cr1, .slice ar2 fr.len cr2] 27))
 have hZ : ((w.alloc (.cells #[.int .u8 kr, .bool br, .int .i64 nr, .string sr, .slice ar1 lr.len cr1, .slice ar2 fr.len cr2] 27)).alloc Ah).heap[w.heap.size + 1]? = some Ah := by
  have := Ab (w.alloc (.cells #[.int .u8 kr, .bool br, .int .i64 nr, .string sr, .slice ar1 lr.len cr1, .slice ar2 fr.len cr2] 27)) Ah
  simpa using this
 have HD := Lib.hid hD
 have HZ := Lib.hid hZ
 have HX := Lib.hid hX
 clear hR hC hD hZ hX
 go_enter Tryz.func9, Tryz.ntmps9
 go_wp2_with (first | (go_at_call 23; refine (HR.out _ HD.out).mono ?_; rintro e w7 ⟨rfl, hb7⟩; obtain ⟨p0, p1, p2, p3, p4, p5, p6⟩ := Ae (blk hb7 HX.out); have HZ7 := Lib.hid (blk hb7 HZ.out); have HB7 := Lib.hid (Aa HD.out HD.out.size hb7); clear hb7) | (go_at_call 17; refine (HC.out _ HB7.out).mono ?_; rintro e w8 ⟨rfl, hb8⟩; obtain ⟨z0, z1, z2, z3, z4, z5, z6⟩ := Ae (blk hb8 HZ7.out); have HB8 := Lib.hid (Aa HB7.out HB7.out.size hb8); clear hb8))
 refine bodyPost_ret (v := .tuple #[Bs, .int .i64 y]) (by simp [results, Tryz.results9, go_sem, Ai, z0, z1, z2, z3, z4, z5]) rfl ?_
 exact Bx (Ag (Nat.le_succ _) [_, _, _, _, _, _] 0 _ HB8.out)
theorem NF (row : VT) (hrow : row = .mk kr br nr sr lr fr) (hL : Laid w) (hr : RV w 0 w.heap.size row [.int .u8 kr, .bool br, .int .i64 nr, .string sr, .slice ar1 lr.len cr1, .slice ar2 fr.len cr2]) (hR : ∀ w', Below w.heap.size w w' → Calls Tryz.prog 23 #[.slice a l.length c] w' fun e w2 => e = .returned (.bool true) ∧ Below w'.heap.size w' w2)
  (hC : ∀ w', Below w.heap.size w w' → Calls Tryz.prog 17 #[.agg #[.int .u8 kr, .bool br, .int .i64 nr, .string sr, .slice ar1 lr.len cr1, .slice ar2 fr.len cr2]] w' fun e w2 => e = .returned (.int .i64 0) ∧ Below w'.heap.size w' w2)
  (hT : ∀ w', Below w.heap.size w w' → Calls Tryz.prog 24 #[.slice a l.length c] w' fun e w2 => Below w'.heap.size w' w2 ∧ ∃ v F, e = .returned v ∧ Node (fun _ => False) w2 v F ∧ Dr l = [F]) :
  Calls Tryz.prog 9 #[.slice a l.length c, .agg #[.int .u8 kr, .bool br, .int .i64 nr, .string sr, .slice ar1 lr.len cr1, .slice ar2 fr.len cr2]] w (EvPost w (Bm row l)) := by
 have HR := Lib.hid hR
 have HC := Lib.hid hC
 have HT := Lib.hid hT
 have HL := Lib.hid hL
 have HRV := Lib.hid hr
 obtain ⟨⟨⟨k, b, n, s, l', f⟩, wy⟩, hrz⟩ : ∃ r : Rz, Bm row l = r := ⟨_, rfl⟩
 have HRZ := Lib.hid hrz
 have hD := Aj (w := w) (.cells #[.int .u8 kr, .bool br, .int .i64 nr, .string sr, .slice ar1 lr.len cr1, .slice ar2 fr.len cr2] 27) Ah
 have hX := Af (o := Ah) (Ab w (.cells #[.int .u8 kr, .bool br, .int .i64 nr, .string sr, .slice ar1 lr.len cr1, .slice ar2 fr.len cr2] 27))
 have hZ : ((w.alloc (.cells #[.int .u8 kr, .bool br, .int .i64 nr, .string sr, .slice ar1 lr.len cr1, .slice ar2 fr.len cr2] 27)).alloc Ah).heap[w.heap.size + 1]? = some Ah := by
  have := Ab (w.alloc (.cells #[.int .u8 kr, .bool br, .int .i64 nr, .string sr, .slice ar1 lr.len cr1, .slice ar2 fr.len cr2] 27)) Ah
  simpa using this
 have HD := Lib.hid hD
 have HZ := Lib.hid hZ
 have HX := Lib.hid hX
 rw [hrz]
 clear hR hC hD hZ hX hT hL hr hrow hrz
 go_enter Tryz.func9, Tryz.ntmps9
 go_upto_region 6 with (first | (go_at_call 23; refine (HR.out _ HD.out).mono ?_; rintro e w7 ⟨rfl, hb7⟩; obtain ⟨p0, p1, p2, p3, p4, p5, p6⟩ := Ae (blk hb7 HX.out); have HX7 := Lib.hid (blk hb7 HX.out); have HZ7 := Lib.hid (blk hb7 HZ.out); have HB7 := Lib.hid (Aa HD.out HD.out.size hb7); clear hb7) | (go_at_call 17; refine (HC.out _ HB7.out).mono ?_; rintro e w8 ⟨rfl, hb8⟩; clear p0 p1 p2 p3 p4 p5 p6; have HX8 := Lib.hid (blk hb8 HX7.out); have HZ8 := Lib.hid (blk hb8 HZ7.out); have HB8 := Lib.hid (Aa HB7.out HB7.out.size hb8); clear hb8))
 obtain ⟨p0, p1, p2, p3, p4, p5, p6⟩ := Ae (show w8.drew.heap[_]? = _ from HX8.out)
 have HB8D := Lib.hid (HB8.out.drew)
 have l8 : w.heap.size + 1 < w8.heap.size := lt_of_block HZ8.out
 go_region_with (first | (go_at_call 24; refine (HT.out _ HB8D.out).mono ?_; rintro e w9 ⟨hb9, v9, F9, rfl, ⟨T9, x9, fn9, rfl, ⟨m2, m3⟩, hc9⟩, hs9⟩; have HX9 := Lib.hid (blk hb9 (show w8.drew.heap[_]? = _ from HX8.out)); have HZ9 := Lib.hid (blk hb9 (show w8.drew.heap[_]? = _ from HZ8.out)); have HB9 := Lib.hid (Aa HB8D.out HB8D.out.size hb9); have HC9 := Lib.hid (hc9 w9 row _ _ _ _ _ _ ⟨Nat.le_refl _, fun _ _ _ => rfl⟩ (HL.out.below HB9.out) (HRV.out.grow HB9.out)); have HRR := Lib.hid (Qx hs9 row); have HS9 := Lib.hid hb9.size; clear hb9 hc9 hs9; obtain ⟨g0, g1, g2, g3, g4, g5, g6⟩ := Ae HX9.out) | ((with_reducible refine (HC9.out).mono ?_); intro e w10 hev; rw [← HRR.out, HRZ.out] at hev; obtain ⟨hb10, d1, e1, d2, e2, rfl, hv10⟩ := hev.parts; have HV10 := Lib.hid hv10; have HB10 := Lib.hid (Aa HB9.out HB9.out.size hb10); obtain ⟨z0, z1, z2, z3, z4, z5, z6⟩ := Ae (blk hb10 HZ9.out); clear hev hb10 hv10))
 all_goals
  go_wp2_with fail
  refine bodyPost_ret (v := .tuple #[.agg #[.int .u8 k, .bool b, .int .i64 n, .string s, .slice d1 l'.len e1, .slice d2 f.len e2], .int .i64 wy]) (by simp [results, Tryz.results9, go_sem, Ai, z0, z1, z2, z3, z4, z5]) rfl ?_
  have hs9 : w8.heap.size ≤ w9.heap.size := HS9.out
  exact ⟨Ag (Nat.le_succ _) [_, _, _, _, _, _] 0 _ HB10.out, _, _, _, _, _, _, rfl, RV.above (us := [_, _, _, _, _, _]) HV10.out (by omega) (by omega) (Below.refl _ _)⟩
end
/- expr.Eval and expr.Holds by one contract each. -/
theorem Fa {l : List ST} (h : Av l = true) : AG l = some 1 ∧ l.length ≤ 128 := by
 unfold Av at h
 simp only [Bool.and_eq_true, decide_eq_true_eq] at h
 exact h
def FW (w : World) (r : Bool × Int) (e : Ending) (w' : World) : Prop := e = .returned (.tuple #[.bool r.1, .int .i64 r.2]) ∧ Below w.heap.size w w'
section
set_option maxHeartbeats 2000000
set_option maxRecDepth 100000
end
end Go.Proofs.YtbemgcjckchdjaaGreatDoor
