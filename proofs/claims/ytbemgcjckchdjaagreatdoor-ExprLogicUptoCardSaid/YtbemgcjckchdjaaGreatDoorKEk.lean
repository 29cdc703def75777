import Derived.Test.YtbemgcjckchdjaaGreatDoorKEj
/- expr.leaf. -/
namespace Go.Proofs.YtbemgcjckchdjaaGreatDoor
open Go.RowKit
set_option linter.unusedSimpArgs false
set_option linter.unusedVariables false
/-- a step whose cells may stand in a row -/
def StOk (s : ST) : Prop := I64 s.n ∧ s.t.size ≤ LIM ∧ 0 ≤ s.k
def LeafPost (w : World) (F : VT → Rz) (e : Ending) (w' : World) : Prop := Below w.heap.size w w' ∧ ∃ v, e = .returned v ∧ v.oneCell' = true ∧ ∀ S : Nat → Prop, (∀ b, S b → b < w.heap.size) → Node S w' v F
theorem leaf_const {w w' : World} {k : Int} {b : Bool} {n : Int} {s : ByteArray} (hb : Below w.heap.size w w') (hv : ∀ (w' : World) lo hi, RV w' lo hi (.mk k b n s .nil .nil) [.int .u8 k, .bool b, .int .i64 n, .string s, .slice none 0 0, .slice none 0 0]) :
    LeafPost w (fun _ => (.mk k b n s .nil .nil, 0)) (.returned (.iface 121 (.agg #[.int .u8 k, .bool b, .int .i64 n, .string s, .slice none 0 0, .slice none 0 0]))) w' := ⟨hb, _, rfl, rfl, fun S _ => constant_node S w' k b n s hv⟩
section
set_option maxHeartbeats 1000000
variable (t : ByteArray) (n : Int) (w : World)
theorem leaf_true : Calls Tryz.prog 68 #[.agg #[.int .u8 2, .string t, .int .i64 n]] w (LeafPost w fun _ => (truthV true, 0)) := by
  have hD := below_new (w := w) (.cells #[.int .u8 2, .string t, .int .i64 n] 43)
  have HD := Lib.hid hD
  clear hD
  go_enter Tryz.func68, Tryz.ntmps68
  go_wp2_with (go_at_call 96; refine (truth_calls _ _).mono ?_; rintro e w4 ⟨rfl, hb4⟩; have HB4 := Lib.hid (below_call0 HD.out HD.out.size hb4); clear hb4)
  go_ret
  exact leaf_const HB4.out (fun w' lo hi => rv_truth true w')
theorem leaf_false : Calls Tryz.prog 68 #[.agg #[.int .u8 3, .string t, .int .i64 n]] w (LeafPost w fun _ => (truthV false, 0)) := by
  have hD := below_new (w := w) (.cells #[.int .u8 3, .string t, .int .i64 n] 43)
  have HD := Lib.hid hD
  clear hD
  go_enter Tryz.func68, Tryz.ntmps68
  go_wp2_with (go_at_call 96; refine (truth_calls _ _).mono ?_; rintro e w4 ⟨rfl, hb4⟩; have HB4 := Lib.hid (below_call0 HD.out HD.out.size hb4); clear hb4)
  go_ret
  exact leaf_const HB4.out (fun w' lo hi => rv_truth false w')
theorem leaf_int (hn : I64 n) : Calls Tryz.prog 68 #[.agg #[.int .u8 4, .string t, .int .i64 n]] w (LeafPost w fun _ => (intV n, 0)) := by
  have HN := Lib.hid hn
  clear hn
  go_enter Tryz.func68, Tryz.ntmps68
  go_wp2_with fail
  go_ret
  exact leaf_const (below_new _) (fun w' lo hi => rv_int n HN.out w')
theorem leaf_text (ht : t.size ≤ LIM) : Calls Tryz.prog 68 #[.agg #[.int .u8 5, .string t, .int .i64 n]] w (LeafPost w fun _ => (textV t, 0)) := by
  have HN := Lib.hid ht
  clear ht
  go_enter Tryz.func68, Tryz.ntmps68
  go_wp2_with fail
  go_ret
  exact leaf_const (below_new _) (fun w' lo hi => rv_text t HN.out w')
theorem leaf_null (k : Int) (k2 : (k == 2) = false) (k3 : (k == 3) = false) (k4 : (k == 4) = false) (k5 : (k == 5) = false) (k6 : (k == 6) = false) : Calls Tryz.prog 68 #[.agg #[.int .u8 k, .string t, .int .i64 n]] w (LeafPost w fun _ => (nullV, 0)) := by
  go_enter Tryz.func68, Tryz.ntmps68
  go_wp2_with fail
  go_ret
  exact leaf_const (below_new _) (fun w' lo hi => rv_null w')
theorem leaf_path (ht : t.size ≤ 1024) (hL : Laid w) : Calls Tryz.prog 68 #[.agg #[.int .u8 6, .string t, .int .i64 n]] w (LeafPost w fun row => ((getV row (splitS t dot)).getD nullV, 0)) := by
  have hD := below_new (w := w) (.cells #[.int .u8 6, .string t, .int .i64 n] 43)
  have HSP := Lib.hid (split_any t dot _ (by unfold LIM; omega) (by decide) (hL.below hD))
  have hlen : (splitS t dot).length ≤ LIM := by
    rw [splitS_length t dot (by decide)]
    have := Lib.countB_le dot (by decide) t.size t (Nat.le_refl _)
    unfold LIM
    omega
  have hsz : ∀ p ∈ splitS t dot, p.size ≤ LIM := fun p hp => by
    have := splitB_size dot _ t p hp
    unfold LIM
    omega
  have HLN := Lib.hid hlen
  have HSZ := Lib.hid hsz
  have HD := Lib.hid hD
  unfold dot at HSP
  clear hD hlen hsz ht hL
  go_enter Tryz.func68, Tryz.ntmps68
  go_wp2_with (go_at_call 57; refine (HSP.out).mono ?_; rintro e w4 ⟨g, rfl, hc4, hg4, hl4, hb4⟩; have HC4 := Lib.hid hc4; have HB4 := Lib.hid (below_call0 HD.out HD.out.size hb4); have HG4 := Lib.hid (Nat.le_trans HD.out.size hg4); have HL4 := Lib.hid hl4; clear hc4 hb4 hg4 hl4)
  go_ret
  refine ⟨HB4.out, _, rfl, rfl, fun S hS => ⟨_, _, _, rfl, meth_path _, fun w' row v0 v1 v2 v3 v4 v5 hl hL' hr => ?_⟩⟩
  refine path_calls' (splitS t dot) _ _ row v0 v1 v2 v3 v4 v5 w' hr hL' HLN.out HSZ.out (Or.inr ⟨g, 0, rfl, Nat.lt_of_lt_of_le HL4.out hl.1, fun i hi => ?_⟩)
  rw [Nat.zero_add]
  have hne : ¬ S g := fun h => by have := hS g h; have := HG4.out; omega
  exact (World.cell?_of_block (a := ⟨g, i, none⟩) (hl.2 g HL4.out hne)).trans (HC4.out i hi)
end
theorem leaf_calls (s : ST) (w : World) (hs : StOk s) (h6 : s.k = 6 → s.t.size ≤ 1024) (hL : Laid w) : Calls Tryz.prog 68 #[.agg #[.int .u8 s.k, .string s.t, .int .i64 s.n]] w (LeafPost w (leafR s)) := by
  obtain ⟨k, t, n⟩ := s
  have e : leafR ⟨k, t, n⟩ = fun row => if k = 2 ∨ k = 3 then (truthV (k == 2), 0) else if k = 4 then (intV n, 0) else if k = 5 then (textV t, 0) else if k = 6 then ((getV row (splitS t dot)).getD nullV, 0) else (nullV, 0) := rfl
  rw [e]
  obtain ⟨hn, ht, _⟩ := hs
  by_cases k2 : k = 2
  · subst k2; exact leaf_true t n w
  by_cases k3 : k = 3
  · subst k3; exact leaf_false t n w
  simp only [k2, k3, or_self, if_false]
  by_cases k4 : k = 4
  · subst k4; exact leaf_int t n w hn
  simp only [k4, if_false]
  by_cases k5 : k = 5
  · subst k5; exact leaf_text t n w ht
  simp only [k5, if_false]
  by_cases k6 : k = 6
  · subst k6; exact leaf_path t n w (h6 rfl) hL
  simp only [k6, if_false]
  exact leaf_null t n w k (by simpa using k2) (by simpa using k3) (by simpa using k4) (by simpa using k5) (by simpa using k6)
end Go.Proofs.YtbemgcjckchdjaaGreatDoor
/- slices.Clone of nodes; expr.one. -/
namespace Go.Proofs.YtbemgcjckchdjaaGreatDoor
open Go.RowKit
set_option linter.unusedSimpArgs false
set_option linter.unusedVariables false
theorem Tryz.infoN : (Tryz.prog.info? 61).map (fun i => (i.zero, i.size, i.bytes)) = some (some .nilIface, 1, 16) := by kernel_rfl
set_option maxHeartbeats 1000000 in
set_option maxRecDepth 100000 in
theorem clone_N (w : World) (xs : List Value) (a : Option Addr) (c : Nat) (hl : xs.length ≤ 1000) (h0 : a = none → xs.length = 0) (hx2 : ∀ ad, a = some ad → ∀ j u, xs[j]? = some u → w.cell? (ad.add j) = some u) (hx3 : ∀ u ∈ xs, u.oneCell' = true) :
    Calls Tryz.prog 44 #[.slice a xs.length c] w fun x w' => ∃ v, x = .returned v ∧ w'.ownsRow w.heap.size 61 1 v xs.length xs ∧ Below w.heap.size w w' := by
  cases a with
  | none =>
    have e0 := h0 rfl
    have HE := Lib.hid e0
    rw [e0]
    clear h0 hx2 hx3 e0 hl
    have hnil : ∀ w : World, (binOp .eql 98 (.slice none 0 c) (.slice none 0 0)).run Tryz.prog w = .ok (.bool true) w := fun w => Lib.run_eql_slice_nil w 98 61 none 0 c 0 0 Tryz.underlying98
    go_enter Tryz.func44, Tryz.ntmps44
    go_wp2_with fail
    go_ret
    exact ⟨.slice none 0 0, rfl, ⟨by rw [HE.out], Or.inl ⟨rfl, rfl⟩⟩, Below.refl _ _⟩
  | some ad =>
    obtain ⟨n, hn⟩ : ∃ n, xs.length = n := ⟨_, rfl⟩
    rw [hn] at hl ⊢
    obtain ⟨i0, hi0, hz0, hz1, hz2⟩ := info_parts Tryz.infoN
    have HX : Hid (xs.length = n * 1) := Lib.hid (by omega)
    have H2 := Lib.hid (hx2 ad rfl)
    have H3 := Lib.hid hx3
    clear h0 hx2 hx3 hn
    have hnil : ∀ w : World, (binOp .eql 98 (.slice (some ad) n c) (.slice none 0 0)).run Tryz.prog w = .ok (.bool false) w := fun w => Lib.run_eql_slice_nil w 98 61 (some ad) n c 0 0 Tryz.underlying98
    go_enter Tryz.func44, Tryz.ntmps44
    go_wp2_with (at_builtin; refine wpList_append_own _ rfl _ _ 98 rfl w.heap.size 61 i0 .nilIface 1 16 Tryz.underlying98 hi0 hz0 hz1 hz2 rfl (by decide) _ 0 [] rfl (owns_empty w 61 1) ad n c xs rfl HX.out (fun j u e => keepA ((Below.refl w.heap.size w).alloc (Nat.le_refl _) _) (H2.out j u e)) H3.out (by unfold maxLen; omega) (by omega) (by simp) ?_; intro v' w1 hown hgrow hiff)
    go_ret
    have hbw : Below w.heap.size w w1 := (((Below.refl w.heap.size w).alloc (Nat.le_refl _) (.cells #[] 61))).grown hgrow (by simp) (fun k hk => by cases hk; exact Nat.le_refl _)
    exact ⟨v', rfl, by simpa using hown, hbw⟩
def oneF (s : ST) (fs : List (VT → Rz)) : VT → Rz := fun row => oneR s row (fs.map fun f => f row)
def OnePost (S : Nat → Prop) (w : World) (F : VT → Rz) (e : Ending) (w' : World) : Prop := Below w.heap.size w w' ∧ ∃ v, e = .returned v ∧ v.oneCell' = true ∧ Node S w' v F
section
set_option maxHeartbeats 1000000
set_option maxRecDepth 100000
theorem one_leaf (S : Nat → Prop) (s : ST) (c : Nat) (A : Option Addr) (w : World) (hs : StOk s) (h6 : s.k = 6 → s.t.size ≤ 1024) (hL : Laid w) (hS : ∀ b, S b → b < w.heap.size) (h7 : s.k ≠ 7) (h8 : s.k ≠ 8) (h21 : s.k ≠ 21) (h22 : s.k ≠ 22) :
    Calls Tryz.prog 43 #[.agg #[.int .u8 s.k, .string s.t, .int .i64 s.n], .slice A 0 c] w (OnePost S w (oneF s [])) := by
  have hD := below_new (w := w) (.cells #[.int .u8 s.k, .string s.t, .int .i64 s.n] 43)
  have H := Lib.hid (leaf_calls s _ hs h6 (hL.below hD))
  have HD := Lib.hid hD
  have HS := Lib.hid hS
  have e : oneF s [] = leafR s := by
    funext row
    unfold oneF oneR
    rw [if_neg h7, if_neg h8, if_neg (by omega)]
    rfl
  rw [e]
  obtain ⟨k, t, n⟩ := s
  simp only at h7 h8 h21 h22
  have q7 : (k == 7) = false := by simpa using h7
  have q8 : (k == 8) = false := by simpa using h8
  have q21 : (k == 21) = false := by simpa using h21
  have q22 : (k == 22) = false := by simpa using h22
  clear hs h6 hL hS h7 h8 h21 h22 e hD
  go_enter Tryz.func43, Tryz.ntmps43
  go_wp2_with (go_at_call 68; refine (H.out).mono ?_; rintro e w4 ⟨hb4, v, rfl, hv1, hv⟩; have HB4 := Lib.hid (below_call0 HD.out HD.out.size hb4); have HV := Lib.hid hv; have HV1 := Lib.hid hv1; clear hb4 hv hv1)
  go_ret
  exact ⟨HB4.out, v, rfl, HV1.out, HV.out S (fun b hb => Nat.lt_of_lt_of_le (HS.out b hb) HD.out.size)⟩
theorem one_oper (S : Nat → Prop) (s : ST) (fs : List (VT → Rz)) (c : Nat) (A : Option Addr) (w : World) (hN : NodeRow S w fs A) (hk : (9 ≤ s.k ∧ s.k ≤ 11 ∧ fs.length = 1) ∨ (12 ≤ s.k ∧ s.k ≤ 20 ∧ fs.length = 2)) :
    Calls Tryz.prog 43 #[.agg #[.int .u8 s.k, .string s.t, .int .i64 s.n], .slice A fs.length c] w (OnePost S w (oneF s fs)) := by
  have hD := below_new (w := w) (.cells #[.int .u8 s.k, .string s.t, .int .i64 s.n] 43)
  have HD := Lib.hid hD
  have HN := Lib.hid hN
  have e : oneF s fs = fun row => operR s.k (fs.map fun f => f row) := by
    funext row
    unfold oneF oneR
    have hne : (fs.map fun f => f row).isEmpty = false := by
      cases fs with
      | nil => simp at hk
      | cons a b => rfl
    rw [if_neg (by omega), if_neg (by omega), if_neg (by omega), if_neg (by rw [hne]; simp)]
  rw [e]
  have HK := Lib.hid hk
  obtain ⟨k, t, n⟩ := s
  simp only at hk ⊢
  have q7 : (k == 7) = false := by simp; omega
  have q8 : (k == 8) = false := by simp; omega
  have q21 : (k == 21) = false := by simp; omega
  have q22 : (k == 22) = false := by simp; omega
  have q0 : ((fs.length : Int) == 0) = false := by simp; intro h; simp [h] at hk
  have l0 : fs.length ≤ 2 := by omega
  clear hN hk e hD
  go_enter Tryz.func43, Tryz.ntmps43
  go_wp2_with fail
  go_ret
  refine ⟨HD.out, _, rfl, rfl, _, _, _, rfl, meth_operator _, fun w' row v0 v1 v2 v3 v4 v5 hl hL' hr => ?_⟩
  exact operator_calls S k fs A c row v0 v1 v2 v3 v4 v5 w' HK.out ((HN.out.later (Later.of_below HD.out)).later hl) hL' hr
theorem one_logic (S : Nat → Prop) (s : ST) (f g : VT → Rz) (c : Nat) (A : Option Addr) (w : World) (hN : NodeRow S w [f, g] A) (hk : s.k = 21 ∨ s.k = 22) (hc : 2 ≤ c) :
    Calls Tryz.prog 43 #[.agg #[.int .u8 s.k, .string s.t, .int .i64 s.n], .slice A 2 c] w (OnePost S w (oneF s [f, g])) := by
  have hD := below_new (w := w) (.cells #[.int .u8 s.k, .string s.t, .int .i64 s.n] 43)
  have hX := heap_last w (.cells #[.int .u8 s.k, .string s.t, .int .i64 s.n] 43)
  have hN2 := hN.later (Later.of_below (S := S) hD)
  have HD := Lib.hid hD
  have e : oneF s [f, g] = fun row => logicR (s.k == 22) (f row) (g row) := by
    funext row
    unfold oneF oneR
    rw [if_neg (by omega), if_neg (by omega), if_pos hk]
    rfl
  rw [e]
  rcases hN2 with h0 | ⟨b, o, rfl, hb, hSb, hcc⟩
  · cases h0
  obtain ⟨va, ha, hna⟩ := hcc 0 (by simp)
  obtain ⟨vb, hb2, hnb⟩ := hcc 1 (by simp)
  simp only [Nat.add_zero, List.getElem_cons_zero, List.getElem_cons_succ] at ha hb2 hna hnb
  have HNA := Lib.hid hna
  have HNB := Lib.hid hnb
  obtain ⟨Ta, xa, fa, rfl, _⟩ := hna
  obtain ⟨Tb, xb, fb, rfl, _⟩ := hnb
  obtain ⟨k, t, n⟩ := s
  simp only at hk ⊢ hX ha hb2 HD HNA HNB
  have q7 : (k == 7) = false := by simp; omega
  have q8 : (k == 8) = false := by simp; omega
  have lw : w.heap.size < (w.alloc (.cells #[.int .u8 k, .string t, .int .i64 n] 43)).heap.size := by simp
  clear hN e hD hcc hSb
  go_enter Tryz.func43, Tryz.ntmps43
  go_upto_region 1 with (fail)
  generalize w.alloc (.cells #[.int .u8 k, .string t, .int .i64 n] 43) = W at *
  obtain ⟨x0, x1, x2, x3⟩ := cells3 hX
  clear hX
  have HKK := Lib.hid hk
  rcases hk with rfl | rfl
  all_goals
    go_upto_region 6 with (fail)
    go_quiet (fail)
    go_wp2_with fail
    go_ret
    refine ⟨HD.out.trans ((below_drewN _ _).mono HD.out.size), _, rfl, rfl, _, _, _, rfl, meth_logic _, fun w' row v0 v1 v2 v3 v4 v5 hl hL' hr => ?_⟩
    have hl2 : Later S W w' := Later.trans ⟨Nat.le_refl _, fun _ _ _ => rfl⟩ hl
    exact logic_calls S _ Ta xa Tb xb f g row v0 v1 v2 v3 v4 v5 w' (HNA.out.later hl2) (HNB.out.later hl2) hL' hr
end
end Go.Proofs.YtbemgcjckchdjaaGreatDoor
/- expr.tree, of steps that make no list and no struct. -/
namespace Go.Proofs.YtbemgcjckchdjaaGreatDoor
open Go.RowKit
set_option linter.unusedSimpArgs false
set_option linter.unusedVariables false
def stepF (fs : List (VT → Rz)) (s : ST) : List (VT → Rz) := fs.take (fs.length - s.takes.toNat) ++ [oneF s (fs.drop (fs.length - s.takes.toNat))]
def stackF (l : List ST) : List (VT → Rz) := l.foldl stepF []
theorem stepF_row (row : VT) (fs : List (VT → Rz)) (s : ST) : (stepF fs s).map (fun f => f row) = stepE row (fs.map fun f => f row) s := by
  unfold stepF stepE
  rw [List.map_append, List.length_map, List.map_take, List.map_cons, List.map_nil]
  unfold oneF
  rw [List.map_drop]
theorem stackF_row (row : VT) : ∀ (l : List ST) (fs : List (VT → Rz)), (l.foldl stepF fs).map (fun f => f row) = stackE row l (fs.map fun f => f row)
  | [], fs => rfl
  | s :: l, fs => by
    rw [List.foldl_cons, stackF_row row l (stepF fs s), stepF_row]
    rfl
theorem stackF_take (l : List ST) (i : Nat) (h : i < l.length) : stackF (l.take (i + 1)) = stepF (stackF (l.take i)) l[i] := by
  unfold stackF
  rw [List.take_succ_eq_append_getElem h, List.foldl_append]
  rfl
theorem Node.move {S S' : Nat → Prop} {w w2 : World} {v : Value} {F : VT → Rz} (h : Node S w v F) (hs : w.heap.size ≤ w2.heap.size) (hb : ∀ b, b < w.heap.size → ¬ S b → w2.heap[b]? = w.heap[b]? ∧ ¬ S' b) : Node S' w2 v F := by
  obtain ⟨T, x, fn, e, hm, hc⟩ := h
  refine ⟨T, x, fn, e, hm, fun w' row v0 v1 v2 v3 v4 v5 hl => hc w' row v0 v1 v2 v3 v4 v5 ⟨Nat.le_trans hs hl.1, fun b hlt hns => ?_⟩⟩
  obtain ⟨h1, h2⟩ := hb b hlt hns
  exact (hl.2 b (Nat.lt_of_lt_of_le hlt hs) h2).trans h1
/-- where a tree's making stands -/
def TreeAt (w wr : World) (fs : List (VT → Rz)) (sv : Value) : Prop :=
  ∃ vals, wr.ownsRow w.heap.size 61 1 sv fs.length vals ∧ (∀ u ∈ vals, u.oneCell' = true) ∧ (∀ j (h : j < fs.length), ∃ v, vals[j]? = some v ∧ Node (fun b => sv.ownBlock = some b) wr v fs[j]) ∧ Below w.heap.size w wr
theorem owns_prefix {w : World} {B : Nat} {T : TypeId} {g n m cap : Nat} {xs : List Value} (h : w.ownsRow B T 1 (.slice (some ⟨g, 0, none⟩) n cap) n xs) (hm : m ≤ n) : w.ownsRow B T 1 (.slice (some ⟨g, 0, none⟩) m cap) m (xs.take m) := by
  rcases h.2 with ⟨h0, _⟩ | ⟨g', cap', cur, e, hB, hg, h1, h2, hcs, htk⟩
  · cases h0
  · cases e
    refine ⟨by rw [List.length_take, h.1]; omega, Or.inr ⟨g, cap, cur, rfl, hB, hg, by omega, h2, hcs, ?_⟩⟩
    rw [← htk, List.take_take]
    congr 1
    omega
theorem one_at {W : World} {v : Value} {T : TypeId} : ∀ j u, [v][j]? = some u → (W.alloc (.cells #[v] T)).cell? ((⟨W.heap.size, 0, none⟩ : Addr).add j) = some u := by
  intro j u hj
  have h := (cell1 (heap_last W (.cells #[v] T))).1
  rw [addr_add, Nat.zero_add]
  match j, hj with
  | 0, hj => cases hj; exact h
theorem tree_step {w wr w9 w2 : World} {fs : List (VT → Rz)} {g at' q r g' cap' : Nat} {vals : List Value} {v9 : Value} {F : VT → Rz} {o : Obj} (hO : wr.ownsRow w.heap.size 61 1 (.slice (some ⟨g, 0, none⟩) (at' + q) (at' + r)) (at' + q) vals) (hfl : fs.length = at' + q) (hone : ∀ u ∈ vals, u.oneCell' = true)
    (hV : ∀ j (h : j < fs.length), ∃ v, vals[j]? = some v ∧ Node (fun b => (Value.slice (some (⟨g, 0, none⟩ : Addr)) (at' + q) (at' + r)).ownBlock = some b) wr v fs[j]) (hB : Below w.heap.size w wr) (h9 : Below wr.heap.size wr w9) (hv9 : v9.oneCell' = true) (hn9 : Node (fun b => (Value.slice (some (⟨g, 0, none⟩ : Addr)) (at' + q) (at' + r)).ownBlock = some b) w9 v9 F)
    (hgrow : (w9.alloc o).grownBy w2 (Value.slice (some ⟨g, 0, none⟩) at' (at' + r)).ownBlock) (hown : w2.ownsRow w.heap.size 61 1 (.slice (some ⟨g', 0, none⟩) (at' + 1) cap') (at' + 1) (vals.take at' ++ [v9])) (hat : (Value.slice (some ⟨g, 0, none⟩) at' (at' + r)).ownBlock = some g' ∨ g' = w9.heap.size + 1) :
    TreeAt w w2 (fs.take at' ++ [F]) (.slice (some ⟨g', 0, none⟩) (at' + 1) cap') := by
  have lg : g < wr.heap.size := (hO.lt g rfl).2
  have hg0 : w.heap.size ≤ g := (hO.lt g rfl).1
  have s9 := h9.size
  have s2 := hgrow.size
  have sa : (w9.alloc o).heap.size = w9.heap.size + 1 := by simp
  rw [sa] at s2
  have hlv : vals.length = at' + q := by have := hO.1; omega
  have hft : (fs.take at').length = at' := by rw [List.length_take]; omega
  have keep9 : ∀ b, b < w9.heap.size → b ≠ g → w2.heap[b]? = w9.heap[b]? ∧ ¬ ((Value.slice (some (⟨g', 0, none⟩ : Addr)) (at' + 1) cap').ownBlock = some b) := fun b hb hne => by
    refine ⟨(hgrow.block b (by omega) (fun e => hne (Option.some.inj e))).trans (Below.heap_alloc w9 o b hb), fun e => ?_⟩
    have e2 : g' = b := Option.some.inj e
    rcases hat with h | h
    · have e3 : g = g' := Option.some.inj h
      omega
    · omega
  refine ⟨vals.take at' ++ [v9], by rw [List.length_append, hft]; exact hown, fun u hu => ?_, fun j hj => ?_, ?_⟩
  · rcases List.mem_append.1 hu with h | h
    · exact hone u (List.mem_of_mem_take h)
    · simp only [List.mem_singleton] at h
      subst h; exact hv9
  · rw [List.length_append, hft] at hj
    by_cases hja : j < at'
    · obtain ⟨v, hv, hn⟩ := hV j (by omega)
      refine ⟨v, ?_, ?_⟩
      · rw [List.getElem?_append_left (by rw [List.length_take]; omega), List.getElem?_take_of_lt hja]; exact hv
      · have e : (fs.take at' ++ [F])[j]'(by rw [List.length_append, hft]; exact hj) = fs[j]'(by omega) := by
          rw [List.getElem_append_left (by omega)]; exact List.getElem_take
        rw [e]
        refine hn.move (by omega) (fun b hb hs => ?_)
        have hne : b ≠ g := fun h => hs (by rw [h]; rfl)
        obtain ⟨k1, k2⟩ := keep9 b (by omega) hne
        exact ⟨k1.trans (h9.block b hb), k2⟩
    · have hje : j = at' := by simp at hj; omega
      subst hje
      refine ⟨v9, ?_, ?_⟩
      · rw [List.getElem?_append_right (by rw [List.length_take]; omega), List.length_take, hlv, Nat.min_eq_left (by omega), Nat.sub_self]; rfl
      · have e : (fs.take j ++ [F])[j]'(by rw [List.length_append, hft]; exact hj) = F := by
          rw [List.getElem_append_right (by omega)]
          simp [hft]
        rw [e]
        refine hn9.move (by omega) (fun b hb hs => ?_)
        have hne : b ≠ g := fun h => hs (by rw [h]; rfl)
        exact keep9 b hb hne
  · have h1 := below_call0 hB hB.size h9
    exact (h1.alloc h1.size o).grown hgrow (by rw [sa]; have := h1.size; omega) (fun k hk => by cases hk; exact hg0)
theorem tree_step0 {w wr w9 w2 : World} {g' cap' : Nat} {v9 : Value} {F : VT → Rz} {o : Obj} (hB : Below w.heap.size w wr) (h9 : Below wr.heap.size wr w9) (hv9 : v9.oneCell' = true) (hn9 : Node (fun _ => False) w9 v9 F)
    (hgrow : (w9.alloc o).grownBy w2 (Value.slice none 0 0).ownBlock) (hown : w2.ownsRow w.heap.size 61 1 (.slice (some ⟨g', 0, none⟩) (0 + 1) cap') (0 + 1) ([] ++ [v9])) (hat : (Value.slice none 0 0).ownBlock = some g' ∨ g' = w9.heap.size + 1) :
    TreeAt w w2 ([].take 0 ++ [F]) (.slice (some ⟨g', 0, none⟩) (0 + 1) cap') := by
  have s9 := h9.size
  have s2 := hgrow.size
  have sa : (w9.alloc o).heap.size = w9.heap.size + 1 := by simp
  rw [sa] at s2
  have hg' : g' = w9.heap.size + 1 := hat.elim (fun h => by cases h) id
  refine ⟨[v9], hown, fun u hu => by simp only [List.mem_singleton] at hu; subst hu; exact hv9, fun j hj => ?_, ?_⟩
  · obtain rfl : j = 0 := by simpa using hj
    refine ⟨v9, rfl, hn9.move (by omega) (fun b hb _ => ⟨(hgrow.block b (by omega) (fun e => by cases e)).trans (Below.heap_alloc w9 o b hb), fun e => ?_⟩)⟩
    have e2 : g' = b := Option.some.inj e
    omega
  · have h1 := below_call0 hB hB.size h9
    exact (h1.alloc h1.size o).grown hgrow (by rw [sa]; have := h1.size; omega) (fun k hk => by cases hk)
theorem blk_last {w : World} {o : Obj} : (w.alloc o).heap[w.heap.size]? = some o := heap_last w o
theorem stack_le' : ∀ (l : List ST) (m0 m : Int), (∀ s ∈ l, s.ok = true → 0 ≤ s.takes) → l.foldl rightStep (some m0) = some m → m ≤ m0 + l.length
  | [], m0, m, _, h => by cases h; simp
  | s :: l, m0, m, hs, h => by
    rw [List.foldl_cons] at h
    by_cases hc : (s.ok && decide (s.takes ≤ m0)) = true
    · have e : rightStep (some m0) s = some (m0 - (s.takes - 1)) := if_pos hc
      rw [e] at h
      have ih := stack_le' l _ m (fun x hx => hs x (List.mem_cons_of_mem _ hx)) h
      have := hs s (List.mem_cons_self ..) (by simp only [Bool.and_eq_true] at hc; exact hc.1)
      simp only [List.length_cons]
      push_cast
      omega
    · have e : rightStep (some m0) s = none := if_neg hc
      rw [e, rightAt_none] at h
      cases h
theorem stack_le (l : List ST) (m : Int) (h : rightAt l = some m) : m ≤ l.length := by
  have := stack_le' l 0 m (fun s _ hok => (takes_range s hok).1) h
  omega
theorem pathB_size {t : ByteArray} (h : pathB t = true) : t.size ≤ 1024 := by
  unfold pathB at h
  simp only [Bool.and_eq_true, decide_eq_true_eq] at h
  exact h.2
theorem ok_path {s : ST} (h : s.ok = true) (h6 : s.k = 6) : s.t.size ≤ 1024 := by
  unfold ST.ok stepOk at h
  simp only [Bool.and_eq_true, h6] at h
  exact pathB_size (by simpa using h.1)
theorem one_calls (S : Nat → Prop) (s : ST) (fs : List (VT → Rz)) (A : Option Addr) (c q : Nat) (w : World) (hs : StOk s) (hok : s.ok = true) (hmk : s.k ≠ 7 ∧ s.k ≠ 8) (hq : s.takes = (q : Int)) (hlen : fs.length = q) (hc : q ≤ c) (hN : NodeRow S w fs A) (hL : Laid w) (hS : ∀ b, S b → b < w.heap.size) :
    Calls Tryz.prog 43 #[.agg #[.int .u8 s.k, .string s.t, .int .i64 s.n], .slice A q c] w (OnePost S w (oneF s fs)) := by
  have hk0 : s.k ≠ 0 := fun h => by
    unfold ST.ok stepOk at hok
    simp [h] at hok
  have hk1 : s.k < 23 := by
    unfold ST.ok stepOk at hok
    simp only [Bool.and_eq_true] at hok
    by_cases h : s.k < 23
    · exact h
    · have h1 := hok.1
      rw [if_neg (by omega), if_neg (by omega), if_neg (by omega), if_neg (by omega), if_neg (by omega), if_neg (by omega)] at h1
      exact absurd (of_decide_eq_true h1) h
  by_cases hkp : 1 ≤ s.k
  · unfold ST.takes stepN at hq
    by_cases h6 : s.k ≤ 6
    · rw [if_pos ⟨hkp, h6⟩] at hq
      have q0 : q = 0 := by omega
      subst q0
      obtain rfl := List.length_eq_zero_iff.1 hlen
      exact one_leaf S s c A w hs (fun h => ok_path hok h) hL hS hmk.1 hmk.2 (by omega) (by omega)
    · rw [if_neg (by omega), if_neg (by omega)] at hq
      by_cases h11 : s.k ≤ 11
      · rw [if_pos (by omega)] at hq
        rw [← hlen]
        exact one_oper S s fs c A w hN (Or.inl ⟨by omega, h11, by omega⟩)
      · rw [if_neg (by omega)] at hq
        by_cases h20 : s.k ≤ 20
        · rw [← hlen]
          exact one_oper S s fs c A w hN (Or.inr ⟨by omega, h20, by omega⟩)
        · have q2 : q = 2 := by omega
          subst q2
          match fs, hlen with
          | [f, g], _ => exact one_logic S s f g c A w hN (by omega) hc
  · exfalso
    have := hs.2.2
    omega
set_option maxHeartbeats 4000000 in
set_option maxRecDepth 100000 in
theorem tree_calls (l : List ST) (a : Option Addr) (c : Nat) (w : World) (hlen : l.length ≤ 128) (hright : rightAt l = some 1) (hmk : ∀ s ∈ l, s.k ≠ 7 ∧ s.k ≠ 8) (hst : ∀ s ∈ l, StOk s) (hL : Laid w) (hr : RowS w l a) :
    Calls Tryz.prog 24 #[.slice a l.length c] w fun e w' => Below w.heap.size w w' ∧ ∃ v F, e = .returned v ∧ Node (fun _ => False) w' v F ∧ stackF l = [F] := by
  have HR := Lib.hid hr
  have HL := Lib.hid hL
  have HRT := Lib.hid hright
  have HMK := Lib.hid hmk
  have HST := Lib.hid hst
  clear hr hL hright hmk hst
  go_enter Tryz.func24, Tryz.ntmps24
  go_wp2_with fail
  go_loopw [3, 12] (fun s3 s12 wr => ∃ (i : Nat) (fs : List (VT → Rz)) (sv : Value), s3 = sv ∧ s12 = .int .i64 i ∧ i ≤ l.length ∧ Hid (stackF (l.take i) = fs) ∧ Hid (rightAt (l.take i) = some (fs.length : Int)) ∧ TreeAt w wr fs sv) (fun _ s12 _ => l.length - (intOf s12).toNat)
  case atStart => exact ⟨0, [], _, rfl, rfl, Nat.zero_le _, Lib.hid rfl, Lib.hid rfl, [], World.ownsRow_nil _ _ _ _, by simp, fun j h => absurd h (Nat.not_lt_zero _), Below.refl _ _⟩
  case round =>
    obtain ⟨i, fs, sv, e3, rfl, hil, HF, HRI, hat⟩ := hrel
    have e3 := e3.symm
    subst e3
    obtain ⟨vals, hO, hone, hV, hB⟩ := hat
    have HO := Lib.hid hO
    have HONE := Lib.hid hone
    have HV := Lib.hid hV
    have HB := Lib.hid hB
    clear hO hone hV hB
    by_cases hlt : i < l.length
    · rcases HR.out.keep HB.out with h0 | ⟨b, o, rfl, hc⟩
      · omega
      obtain ⟨c0, c1, c2⟩ := hc i hlt
      have hst := rightAt_take l i hlt
      have hdead := rightAt_dead l (i + 1)
      have hsf := stackF_take l i hlt
      have hso := HST.out _ (List.getElem_mem hlt)
      have hmk := HMK.out _ (List.getElem_mem hlt)
      obtain ⟨s, hs⟩ : ∃ s, l[i] = s := ⟨_, rfl⟩
      rw [hs] at c0 c1 c2 hst hsf hso hmk
      rw [HRI.out] at hst
      rw [HF.out] at hsf
      have hok : s.ok = true ∧ s.takes ≤ (fs.length : Int) := by
        cases hok : s.ok with
        | true =>
          refine ⟨rfl, ?_⟩
          by_cases h : s.takes ≤ (fs.length : Int)
          · exact h
          · have := hdead (by rw [hst]; simp [rightStep, h])
            rw [HRT.out] at this; cases this
        | false =>
          have := hdead (by rw [hst]; simp [rightStep, hok])
          rw [HRT.out] at this; cases this
      obtain ⟨hok, htk⟩ := hok
      have hrg := takes_range s hok
      have hst2 : rightAt (l.take (i + 1)) = some ((fs.length : Int) - (s.takes - 1)) := by rw [hst]; simp [rightStep, hok, htk]
      obtain ⟨q, hq⟩ : ∃ q : Nat, s.takes = q := ⟨s.takes.toNat, by omega⟩
      obtain ⟨at', hat'⟩ : ∃ at' : Nat, fs.length = at' + q := ⟨fs.length - q, by omega⟩
      have HFS : Hid (stackF (l.take (i + 1)) = fs.take at' ++ [oneF s (fs.drop at')]) := Lib.hid (by rw [hsf]; unfold stepF; rw [hq, hat']; simp)
      have HRS : Hid (rightAt (l.take (i + 1)) = some ((at' : Int) + 1)) := Lib.hid (by rw [hst2, hq, hat']; congr 1; push_cast; omega)
      have HTK0 := fun (w' : World) (hb : Below w.heap.size w w') => takes_any s.k s.t s.n w' hso.2.1 (HL.out.below hb)
      rw [takesV_ok s hok, hq] at HTK0
      have HTK := Lib.hid HTK0
      have HSO := Lib.hid hso
      have HOK := Lib.hid hok
      have HMS := Lib.hid hmk
      have HQ := Lib.hid hq
      have hq64 : q ≤ 64 := by omega
      have hfl : fs.length ≤ i := by
        have := stack_le (l.take i) _ HRI.out
        rw [List.length_take] at this
        omega
      clear hst hst2 hdead hsf hs HTK0 hok hso hmk htk hrg hc hq
      rcases HO.out.2 with ⟨e, h0⟩ | ⟨g, cap, cur, e, hBg, hg, h1, h2, hcs, htk⟩
      · obtain rfl : q = 0 := by omega
        obtain rfl : at' = 0 := by omega
        obtain rfl := List.length_eq_zero_iff.1 h0
        subst e
        clear hat' h0 hq64
        have hbx := below_new (w := wr) (.cells #[.int .u8 s.k, .string s.t, .int .i64 s.n] 43)
        have HTK1 := Lib.hid (HTK.out _ (below_call0 HB.out HB.out.size hbx))
        have HBX := Lib.hid hbx
        clear hbx
        go_upto_region 7 with (go_at_call 20; refine (HTK1.out).mono ?_; rintro e w6 ⟨rfl, hb6⟩; have HB6 := Lib.hid hb6; clear hb6)
        have hk6 := blk HB6.out (blk_last (o := .cells #[.int .u8 s.k, .string s.t, .int .i64 s.n] 43) (w := wr))
        have HB60 := Lib.hid (below_call0 HBX.out HBX.out.size HB6.out)
        obtain ⟨k0, k1, k2, k3⟩ := cells3 (show w6.drew.heap[wr.heap.size]? = some (.cells #[.int .u8 s.k, .string s.t, .int .i64 s.n] 43 (0, 0)) from hk6)
        have HSD : Hid (w6.drew.cell? ⟨wr.heap.size, 0, none⟩ = some (.int .u8 s.k) ∧ w6.drew.cell? ⟨wr.heap.size, 1, none⟩ = some (.string s.t) ∧ w6.drew.cell? ⟨wr.heap.size, 2, none⟩ = some (.int .i64 s.n)) := Lib.hid ⟨k0, k1, k2⟩
        have HB6D := Lib.hid (below_call0 HB60.out HB60.out.size (Below.refl w6.heap.size w6).drew)
        have HCL : Hid (∀ w', Calls Tryz.prog 44 #[.slice none 0 0] w' fun x w2 => ∃ v, x = .returned v ∧ w2.ownsRow w'.heap.size 61 1 v 0 [] ∧ Below w'.heap.size w' w2) := Lib.hid (fun w' => clone_N w' [] none 0 (by simp) (fun _ => rfl) (fun ad e => by cases e) (by simp))
        have HN1 : Hid (∀ (w8 : World) (A8 : Option Addr) (c8 : Nat), Below wr.heap.size wr w8 → Calls Tryz.prog 43 #[.agg #[.int .u8 s.k, .string s.t, .int .i64 s.n], .slice A8 0 c8] w8 (OnePost (fun _ => False) w8 (oneF s []))) := Lib.hid (fun w8 A8 c8 hb1 => one_calls _ s [] A8 c8 0 w8 HSO.out HOK.out HMS.out HQ.out rfl (Nat.zero_le _) (Or.inl rfl) (HL.out.below (below_call0 HB.out HB.out.size hb1)) (fun b hb => hb.elim))
        have l6 : wr.heap.size < w6.heap.size := lt_of_block hk6
        clear k0 k1 k2 k3 hk6
        go_region_held3 (fun w' => w'.cell? ⟨wr.heap.size, 0, none⟩ = some (.int .u8 s.k) ∧ w'.cell? ⟨wr.heap.size, 1, none⟩ = some (.string s.t) ∧ w'.cell? ⟨wr.heap.size, 2, none⟩ = some (.int .i64 s.n))
          (first | (with_reducible exact HSD.out) | (with_reducible exact HS8.out) | (with_reducible exact HS9.out))
          (first | (go_at_call 44; refine (HCL.out _).mono ?_; rintro e w8 ⟨v8, rfl, ho8, hb8⟩; obtain ⟨A8, c8, rfl, hc8, _⟩ := owns_val ho8; have HS8 : Hid (w8.cell? ⟨wr.heap.size, 0, none⟩ = some (.int .u8 s.k) ∧ w8.cell? ⟨wr.heap.size, 1, none⟩ = some (.string s.t) ∧ w8.cell? ⟨wr.heap.size, 2, none⟩ = some (.int .i64 s.n)) := Lib.hid ⟨keepC hb8 HSD.out.1, keepC hb8 HSD.out.2.1, keepC hb8 HSD.out.2.2⟩; have HB8 := Lib.hid (below_call0 HB6D.out HB6D.out.size hb8); clear ho8 hb8) | (go_at_call 43; refine (HN1.out _ _ _ HB8.out).mono ?_; rintro e w9 ⟨hb9, v9, rfl, ho9, hn9⟩; have HN9 := Lib.hid hn9; have HS9 : Hid (w9.cell? ⟨wr.heap.size, 0, none⟩ = some (.int .u8 s.k) ∧ w9.cell? ⟨wr.heap.size, 1, none⟩ = some (.string s.t) ∧ w9.cell? ⟨wr.heap.size, 2, none⟩ = some (.int .i64 s.n)) := Lib.hid ⟨keepC hb9 HS8.out.1, keepC hb9 HS8.out.2.1, keepC hb9 HS8.out.2.2⟩; have HB9 := Lib.hid (below_call0 HB8.out HB8.out.size hb9); obtain ⟨T9, x9, fn9, rfl, _⟩ := hn9; clear hb9))
        all_goals
          obtain ⟨i0, hi0, hz00, hz1, hz2⟩ := info_parts Tryz.infoN
          have E1 : Hid (0 + 1 ≤ maxLen) := Lib.hid (by unfold maxLen; omega)
          have E2 : Hid ((0 + 1) * 16 ≤ 140737488355328) := Lib.hid (by omega)
          have E3 : Hid (w.heap.size ≤ (w9.alloc (.cells #[.iface T9 x9] 61)).heap.size) := Lib.hid (by have := HB9.out.size; have := HB.out.size; simp; omega)
          have E5 : Hid (∀ u ∈ ([.iface T9 x9] : List Value), u.oneCell' = true) := Lib.hid (by intro u hu; simp only [List.mem_singleton] at hu; subst hu; rfl)
          go_wp2_with (at_builtin; refine wpList_append_lies _ rfl _ _ 98 rfl w.heap.size 61 i0 .nilIface 1 16 Tryz.underlying98 hi0 hz00 hz1 hz2 rfl (by decide) (.slice none 0 0) 0 [] (by rfl) (World.ownsRow_nil _ _ _ _) ⟨w9.heap.size, 0, none⟩ 1 1 [.iface T9 x9] (by rfl) rfl one_at E5.out (by decide) E1.out E2.out E3.out (w9.heap.size + 1) (by simp) ?_; intro g' cap' w2 hown hgrow hat2 hlt2; have HTS := Lib.hid (tree_step0 HB.out HB9.out rfl HN9.out hgrow hown hat2); clear hown hgrow hat2 hlt2)
          go_roundw
          case rel => exact ⟨i + 1, _, _, rfl, by go_num, by omega, HFS, Lib.hid (by rw [HRS.out]; rfl), HTS.out⟩
          case measure => simp [intOf]; omega
      · rw [hat'] at e
        obtain ⟨r, rfl⟩ : ∃ r, cap = at' + r := ⟨cap - at', by omega⟩
        have hqr : q ≤ r := by omega
        have hS1 : ((at' + q : Nat) : Int) - (q : Int) = (at' : Int) := by omega
        have hS2 : (at' : Int) + (q : Int) - (q : Int) = (at' : Int) := by omega
        have hat64 : at' ≤ 200 := by omega
        have hr63 : at' + r ≤ 9223372036854775807 := by unfold maxLen at h2; omega
        subst e
        have HFL := Lib.hid hat'
        have HO2 : Hid (wr.ownsRow w.heap.size 61 1 (.slice (some ⟨g, 0, none⟩) (at' + q) (at' + r)) (at' + q) vals) := Lib.hid (by have h := HO.out; rw [hat'] at h; exact h)
        clear hcs htk hg h1 h2 hat'
        have hbx := below_new (w := wr) (.cells #[.int .u8 s.k, .string s.t, .int .i64 s.n] 43)
        have HTK1 := Lib.hid (HTK.out _ (below_call0 HB.out HB.out.size hbx))
        have HBX := Lib.hid hbx
        clear hbx
        go_upto_region 7 with (go_at_call 20; refine (HTK1.out).mono ?_; rintro e w6 ⟨rfl, hb6⟩; have HB6 := Lib.hid hb6; clear hb6)
        have hk6 := blk HB6.out (blk_last (o := .cells #[.int .u8 s.k, .string s.t, .int .i64 s.n] 43) (w := wr))
        have HB60 := Lib.hid (below_call0 HBX.out HBX.out.size HB6.out)
        obtain ⟨k0, k1, k2, k3⟩ := cells3 (show w6.drew.heap[wr.heap.size]? = some (.cells #[.int .u8 s.k, .string s.t, .int .i64 s.n] 43 (0, 0)) from hk6)
        have HSD : Hid (w6.drew.cell? ⟨wr.heap.size, 0, none⟩ = some (.int .u8 s.k) ∧ w6.drew.cell? ⟨wr.heap.size, 1, none⟩ = some (.string s.t) ∧ w6.drew.cell? ⟨wr.heap.size, 2, none⟩ = some (.int .i64 s.n)) := Lib.hid ⟨k0, k1, k2⟩
        have HB6D := Lib.hid (below_call0 HB60.out HB60.out.size (Below.refl w6.heap.size w6).drew)
        have hlv : vals.length = at' + q := by have := HO.out.1; have := HFL.out; omega
        have hld : (vals.drop at').length = q := by rw [List.length_drop, hlv]; omega
        have HLV := Lib.hid hlv
        obtain ⟨A', hA', hcel⟩ : ∃ A', (if r = 0 then some (⟨g, 0, none⟩ : Addr) else some ⟨g, at', none⟩) = some A' ∧ ∀ j u, (vals.drop at')[j]? = some u → wr.cell? (A'.add j) = some u := by
          by_cases hr0 : r = 0
          · refine ⟨⟨g, 0, none⟩, if_pos hr0, fun j u hu => ?_⟩
            have := (List.getElem?_eq_some_iff.1 hu).1
            omega
          · refine ⟨⟨g, at', none⟩, if_neg hr0, fun j u hu => ?_⟩
            have hj := (List.getElem?_eq_some_iff.1 hu).1
            rw [addr_add]
            rw [List.getElem?_drop] at hu
            exact (HO2.out.cellAt (at' + j) (by omega)).trans hu
        have HCL : Hid (∀ w', Below wr.heap.size wr w' → Calls Tryz.prog 44 #[.slice (some A') q r] w' fun x w2 => ∃ v, x = .returned v ∧ w2.ownsRow w'.heap.size 61 1 v q (vals.drop at') ∧ Below w'.heap.size w' w2) := Lib.hid (fun w' hb => by
          have h := clone_N w' (vals.drop at') (some A') r (by omega) (fun e => by cases e) (fun ad e j u hu => by cases e; exact keepA hb (hcel j u hu)) (fun u hu => HONE.out u (List.mem_of_mem_drop hu))
          rw [hld] at h
          exact h)
        have HN1 : Hid (∀ (w' w8 : World) (A8 : Option Addr) (c8 : Nat), Below wr.heap.size wr w' → Below w'.heap.size w' w8 → w8.ownsRow w'.heap.size 61 1 (.slice A8 q c8) q (vals.drop at') → q ≤ c8 → Calls Tryz.prog 43 #[.agg #[.int .u8 s.k, .string s.t, .int .i64 s.n], .slice A8 q c8] w8 (OnePost (fun b => (Value.slice (some ⟨g, 0, none⟩) (at' + q) (at' + r)).ownBlock = some b) w8 (oneF s (fs.drop at')))) := Lib.hid (fun w' w8 A8 c8 hb1 hb2 ho hc8 => by
          have hbb := below_call0 hb1 hb1.size hb2
          have lg : g < wr.heap.size := (HO.out.lt g rfl).2
          refine one_calls _ s (fs.drop at') A8 c8 q w8 HSO.out HOK.out HMS.out HQ.out (by rw [List.length_drop, HFL.out]; omega) hc8 ?_ (HL.out.below (below_call0 HB.out HB.out.size hbb)) (fun b hb => by cases hb; exact Nat.lt_of_lt_of_le lg hbb.size)
          rcases ho.2 with ⟨_, h0⟩ | ⟨g8, cap8, cur8, e8, hB8, hg8, _⟩
          · exact Or.inl (by rw [List.length_drop, HFL.out]; omega)
          · cases e8
            refine Or.inr ⟨g8, 0, rfl, lt_of_block hg8, fun e => by have e2 : g = g8 := Option.some.inj e; have := hb1.size; omega, fun j hj => ?_⟩
            rw [List.length_drop, HFL.out] at hj
            obtain ⟨v, hv, hn⟩ := HV.out (at' + j) (by rw [HFL.out]; omega)
            refine ⟨v, ?_, ?_⟩
            · rw [Nat.zero_add, ho.cellAt j (by omega), List.getElem?_drop]; exact hv
            · have e : (fs.drop at')[j]'(by rw [List.length_drop, HFL.out]; exact hj) = fs[at' + j]'(by rw [HFL.out]; omega) := List.getElem_drop
              rw [e]
              exact hn.later (Later.of_below hbb))
        have l6 : wr.heap.size < w6.heap.size := lt_of_block hk6
        clear k0 k1 k2 k3 hk6 hcel hld hlv
        have b1 : (0 : Int) ≤ (at' : Int) := by omega
        have b2 : (at' : Int) ≤ ((at' + q : Nat) : Int) := by omega
        have b3 : (at' : Int) ≤ (at' : Int) + (q : Int) := by omega
        have b4 : (at' : Int) ≤ (at' : Int) + (r : Int) := by omega
        have b5 : (at' : Int) ≤ ((at' + r : Nat) : Int) := by omega
        have b6 : at' ≤ at' + q := by omega
        have b7 : at' ≤ at' + r := by omega
        go_region_held3 (fun w' => w'.cell? ⟨wr.heap.size, 0, none⟩ = some (.int .u8 s.k) ∧ w'.cell? ⟨wr.heap.size, 1, none⟩ = some (.string s.t) ∧ w'.cell? ⟨wr.heap.size, 2, none⟩ = some (.int .i64 s.n))
          (first | (with_reducible exact HSD.out) | (with_reducible exact HS8.out) | (with_reducible exact HS9.out))
          (first | (go_at_call 44; refine (HCL.out _ HB6D.out).mono ?_; rintro e w8 ⟨v8, rfl, ho8, hb8⟩; obtain ⟨A8, c8, rfl, hc8, _⟩ := owns_val ho8; have HS8 : Hid (w8.cell? ⟨wr.heap.size, 0, none⟩ = some (.int .u8 s.k) ∧ w8.cell? ⟨wr.heap.size, 1, none⟩ = some (.string s.t) ∧ w8.cell? ⟨wr.heap.size, 2, none⟩ = some (.int .i64 s.n)) := Lib.hid ⟨keepC hb8 HSD.out.1, keepC hb8 HSD.out.2.1, keepC hb8 HSD.out.2.2⟩; have HO8 := Lib.hid ho8; have HB8 := Lib.hid hb8; clear ho8 hb8) | (go_at_call 43; refine (HN1.out _ _ _ _ HB6D.out HB8.out HO8.out hc8).mono ?_; rintro e w9 ⟨hb9, v9, rfl, ho9, hn9⟩; have HN9 := Lib.hid hn9; have HS9 : Hid (w9.cell? ⟨wr.heap.size, 0, none⟩ = some (.int .u8 s.k) ∧ w9.cell? ⟨wr.heap.size, 1, none⟩ = some (.string s.t) ∧ w9.cell? ⟨wr.heap.size, 2, none⟩ = some (.int .i64 s.n)) := Lib.hid ⟨keepC hb9 HS8.out.1, keepC hb9 HS8.out.2.1, keepC hb9 HS8.out.2.2⟩; have HB9 := Lib.hid (below_call0 (below_call0 HB6D.out HB6D.out.size HB8.out) (below_call0 HB6D.out HB6D.out.size HB8.out).size hb9); obtain ⟨T9, x9, fn9, rfl, _⟩ := hn9; clear hb9))
        all_goals
          obtain ⟨i0, hi0, hz00, hz1, hz2⟩ := info_parts Tryz.infoN
          have HOP := Lib.hid (owns_below (owns_prefix HO2.out b6) HB9.out)
          have E1 : Hid (at' + 1 ≤ maxLen) := Lib.hid (by unfold maxLen; omega)
          have E2 : Hid ((at' + 1) * 16 ≤ 140737488355328) := Lib.hid (by omega)
          have E3 : Hid (w.heap.size ≤ (w9.alloc (.cells #[.iface T9 x9] 61)).heap.size) := Lib.hid (by have := HB9.out.size; have := HB.out.size; simp; omega)
          have E5 : Hid (∀ u ∈ ([.iface T9 x9] : List Value), u.oneCell' = true) := Lib.hid (by intro u hu; simp only [List.mem_singleton] at hu; subst hu; rfl)
          go_wp2_with (at_builtin; refine wpList_append_lies _ rfl _ _ 98 rfl w.heap.size 61 i0 .nilIface 1 16 Tryz.underlying98 hi0 hz00 hz1 hz2 rfl (by decide) (.slice (some ⟨g, 0, none⟩) at' (at' + r)) at' (vals.take at') (by rfl) (HOP.out.alloc _) ⟨w9.heap.size, 0, none⟩ 1 1 [.iface T9 x9] (by rfl) rfl one_at E5.out (by decide) E1.out E2.out E3.out (w9.heap.size + 1) (by simp) ?_; intro g' cap' w2 hown hgrow hat2 hlt2; have HTS := Lib.hid (tree_step HO2.out HFL.out HONE.out HV.out HB.out HB9.out rfl HN9.out hgrow hown hat2); clear hown hgrow hat2 hlt2)
          go_roundw
          case rel => exact ⟨i + 1, _, _, rfl, by go_num, by omega, HFS, Lib.hid (by rw [HRS.out, List.length_append, List.length_take, HFL.out]; simp), HTS.out⟩
          case measure => simp [intOf]; omega
    · have hfull : l.take i = l := List.take_of_length_le (by omega)
      have h1 := HRI.out
      rw [hfull, HRT.out] at h1
      have hfl1 : fs.length = 1 := by have := Option.some.inj h1; omega
      have h2 := HF.out
      rw [hfull] at h2
      obtain ⟨F, rfl⟩ : ∃ F, fs = [F] := by
        match fs, hfl1 with
        | [F], _ => exact ⟨F, rfl⟩
      have HS := Lib.hid h2
      obtain ⟨v, hv, hn⟩ := HV.out 0 (by simp)
      rcases HO.out.2 with ⟨_, h0⟩ | ⟨g, cap, cur, e, hBg, hg, hc1, hc2, hcs, htk⟩
      · cases h0
      · subst e
        have hcell := (HO.out.cellAt 0 (by simp)).trans hv
        have HN' : Hid (Node (fun _ => False) wr v F) := Lib.hid (hn.move (Nat.le_refl _) (fun b hb hs => ⟨rfl, fun h => h⟩))
        obtain ⟨Tv, xv, fv, rfl, _⟩ := hn
        clear h1 h2 hfull hfl1 hg hc1 hc2 hcs htk hv
        go_wp2_with fail
        go_ret
        exact ⟨HB.out, _, F, rfl, HN'.out, HS.out⟩
end Go.Proofs.YtbemgcjckchdjaaGreatDoor
/- expr.Eval, expr.Holds, of steps that make no list and no struct. -/
namespace Go.Proofs.YtbemgcjckchdjaaGreatDoor
open Go.RowKit
set_option linter.unusedSimpArgs false
set_option linter.unusedVariables false
/-- no step of a right expression makes a list or a struct -/
def Plain (l : List ST) : Prop := rightB l = true → ∀ s ∈ l, s.k ≠ 7 ∧ s.k ≠ 8
theorem treeE_of {l : List ST} {F : VT → Rz} (h : stackF l = [F]) (row : VT) : treeE row l = F row := by
  have := stackF_row row l []
  unfold treeE
  rw [List.map_nil] at this
  rw [← this]
  unfold stackF at h
  rw [h]
  rfl
section
set_option maxHeartbeats 2000000
set_option maxRecDepth 100000
variable (l : List ST) (a : Option Addr) (c : Nat) (kr : Int) (br : Bool) (nr : Int) (sr : ByteArray) (ar1 : Option Addr) (lr : VL) (cr1 : Nat) (ar2 : Option Addr) (fr : FL) (cr2 : Nat) (w : World)
theorem eval_syntax (hR : ∀ w', Below w.heap.size w w' → Calls Tryz.prog 23 #[.slice a l.length c] w' fun e w2 => e = .returned (.bool false) ∧ Below w'.heap.size w' w2) :
    Calls Tryz.prog 9 #[.slice a l.length c, .agg #[.int .u8 kr, .bool br, .int .i64 nr, .string sr, .slice ar1 lr.len cr1, .slice ar2 fr.len cr2]] w (EvPost w (nullV, 13)) := by
  have HR := Lib.hid hR
  have hD := two_allocs (w := w) (.cells #[.int .u8 kr, .bool br, .int .i64 nr, .string sr, .slice ar1 lr.len cr1, .slice ar2 fr.len cr2] 27) zeroO
  have hZ : ((w.alloc (.cells #[.int .u8 kr, .bool br, .int .i64 nr, .string sr, .slice ar1 lr.len cr1, .slice ar2 fr.len cr2] 27)).alloc zeroO).heap[w.heap.size + 1]? = some zeroO := by
    have := heap_last (w.alloc (.cells #[.int .u8 kr, .bool br, .int .i64 nr, .string sr, .slice ar1 lr.len cr1, .slice ar2 fr.len cr2] 27)) zeroO
    simpa using this
  have HD := Lib.hid hD
  have HZ := Lib.hid hZ
  clear hR hD hZ
  go_enter Tryz.func9, Tryz.ntmps9
  go_wp2_with (go_at_call 23; refine (HR.out _ HD.out).mono ?_; rintro e w7 ⟨rfl, hb7⟩; obtain ⟨z0, z1, z2, z3, z4, z5, z6⟩ := cells6 (blk hb7 HZ.out); have HB7 := Lib.hid (below_call0 HD.out HD.out.size hb7); clear hb7)
  refine bodyPost_ret (v := .tuple #[zeroV, .int .i64 13]) (by simp [results, Tryz.results9, go_sem, cell_set_same, z0, z1, z2, z3, z4, z5]) rfl ?_
  exact ev_null (setCells_below (Nat.le_succ _) [_, _, _, _, _, _] 0 _ HB7.out)
theorem eval_check (y : Int) (hy : (y != 0) = true) (hR : ∀ w', Below w.heap.size w w' → Calls Tryz.prog 23 #[.slice a l.length c] w' fun e w2 => e = .returned (.bool true) ∧ Below w'.heap.size w' w2)
    (hC : ∀ w', Below w.heap.size w w' → Calls Tryz.prog 17 #[.agg #[.int .u8 kr, .bool br, .int .i64 nr, .string sr, .slice ar1 lr.len cr1, .slice ar2 fr.len cr2]] w' fun e w2 => e = .returned (.int .i64 y) ∧ Below w'.heap.size w' w2) :
    Calls Tryz.prog 9 #[.slice a l.length c, .agg #[.int .u8 kr, .bool br, .int .i64 nr, .string sr, .slice ar1 lr.len cr1, .slice ar2 fr.len cr2]] w (EvPost w (nullV, y)) := by
  have HR := Lib.hid hR
  have HC := Lib.hid hC
  have hD := two_allocs (w := w) (.cells #[.int .u8 kr, .bool br, .int .i64 nr, .string sr, .slice ar1 lr.len cr1, .slice ar2 fr.len cr2] 27) zeroO
  have hX := blk_alloc (o := zeroO) (heap_last w (.cells #[.int .u8 kr, .bool br, .int .i64 nr, .string sr, .slice ar1 lr.len cr1, .slice ar2 fr.len cr2] 27))
  have hZ : ((w.alloc (.cells #[.int .u8 kr, .bool br, .int .i64 nr, .string sr, .slice ar1 lr.len cr1, .slice ar2 fr.len cr2] 27)).alloc zeroO).heap[w.heap.size + 1]? = some zeroO := by
    have := heap_last (w.alloc (.cells #[.int .u8 kr, .bool br, .int .i64 nr, .string sr, .slice ar1 lr.len cr1, .slice ar2 fr.len cr2] 27)) zeroO
    simpa using this
  have HD := Lib.hid hD
  have HZ := Lib.hid hZ
  have HX := Lib.hid hX
  clear hR hC hD hZ hX
  go_enter Tryz.func9, Tryz.ntmps9
  go_wp2_with (first | (go_at_call 23; refine (HR.out _ HD.out).mono ?_; rintro e w7 ⟨rfl, hb7⟩; obtain ⟨p0, p1, p2, p3, p4, p5, p6⟩ := cells6 (blk hb7 HX.out); have HZ7 := Lib.hid (blk hb7 HZ.out); have HB7 := Lib.hid (below_call0 HD.out HD.out.size hb7); clear hb7) | (go_at_call 17; refine (HC.out _ HB7.out).mono ?_; rintro e w8 ⟨rfl, hb8⟩; obtain ⟨z0, z1, z2, z3, z4, z5, z6⟩ := cells6 (blk hb8 HZ7.out); have HB8 := Lib.hid (below_call0 HB7.out HB7.out.size hb8); clear hb8))
  refine bodyPost_ret (v := .tuple #[zeroV, .int .i64 y]) (by simp [results, Tryz.results9, go_sem, cell_set_same, z0, z1, z2, z3, z4, z5]) rfl ?_
  exact ev_null (setCells_below (Nat.le_succ _) [_, _, _, _, _, _] 0 _ HB8.out)
theorem eval_tree (row : VT) (hrow : row = .mk kr br nr sr lr fr) (hL : Laid w) (hr : RV w 0 w.heap.size row [.int .u8 kr, .bool br, .int .i64 nr, .string sr, .slice ar1 lr.len cr1, .slice ar2 fr.len cr2]) (hR : ∀ w', Below w.heap.size w w' → Calls Tryz.prog 23 #[.slice a l.length c] w' fun e w2 => e = .returned (.bool true) ∧ Below w'.heap.size w' w2)
    (hC : ∀ w', Below w.heap.size w w' → Calls Tryz.prog 17 #[.agg #[.int .u8 kr, .bool br, .int .i64 nr, .string sr, .slice ar1 lr.len cr1, .slice ar2 fr.len cr2]] w' fun e w2 => e = .returned (.int .i64 0) ∧ Below w'.heap.size w' w2)
    (hT : ∀ w', Below w.heap.size w w' → Calls Tryz.prog 24 #[.slice a l.length c] w' fun e w2 => Below w'.heap.size w' w2 ∧ ∃ v F, e = .returned v ∧ Node (fun _ => False) w2 v F ∧ stackF l = [F]) :
    Calls Tryz.prog 9 #[.slice a l.length c, .agg #[.int .u8 kr, .bool br, .int .i64 nr, .string sr, .slice ar1 lr.len cr1, .slice ar2 fr.len cr2]] w (EvPost w (treeE row l)) := by
  have HR := Lib.hid hR
  have HC := Lib.hid hC
  have HT := Lib.hid hT
  have HL := Lib.hid hL
  have HRV := Lib.hid hr
  obtain ⟨⟨⟨k, b, n, s, l', f⟩, wy⟩, hrz⟩ : ∃ r : Rz, treeE row l = r := ⟨_, rfl⟩
  have HRZ := Lib.hid hrz
  have hD := two_allocs (w := w) (.cells #[.int .u8 kr, .bool br, .int .i64 nr, .string sr, .slice ar1 lr.len cr1, .slice ar2 fr.len cr2] 27) zeroO
  have hX := blk_alloc (o := zeroO) (heap_last w (.cells #[.int .u8 kr, .bool br, .int .i64 nr, .string sr, .slice ar1 lr.len cr1, .slice ar2 fr.len cr2] 27))
  have hZ : ((w.alloc (.cells #[.int .u8 kr, .bool br, .int .i64 nr, .string sr, .slice ar1 lr.len cr1, .slice ar2 fr.len cr2] 27)).alloc zeroO).heap[w.heap.size + 1]? = some zeroO := by
    have := heap_last (w.alloc (.cells #[.int .u8 kr, .bool br, .int .i64 nr, .string sr, .slice ar1 lr.len cr1, .slice ar2 fr.len cr2] 27)) zeroO
    simpa using this
  have HD := Lib.hid hD
  have HZ := Lib.hid hZ
  have HX := Lib.hid hX
  rw [hrz]
  clear hR hC hD hZ hX hT hL hr hrow hrz
  go_enter Tryz.func9, Tryz.ntmps9
  go_upto_region 6 with (first | (go_at_call 23; refine (HR.out _ HD.out).mono ?_; rintro e w7 ⟨rfl, hb7⟩; obtain ⟨p0, p1, p2, p3, p4, p5, p6⟩ := cells6 (blk hb7 HX.out); have HX7 := Lib.hid (blk hb7 HX.out); have HZ7 := Lib.hid (blk hb7 HZ.out); have HB7 := Lib.hid (below_call0 HD.out HD.out.size hb7); clear hb7) | (go_at_call 17; refine (HC.out _ HB7.out).mono ?_; rintro e w8 ⟨rfl, hb8⟩; clear p0 p1 p2 p3 p4 p5 p6; have HX8 := Lib.hid (blk hb8 HX7.out); have HZ8 := Lib.hid (blk hb8 HZ7.out); have HB8 := Lib.hid (below_call0 HB7.out HB7.out.size hb8); clear hb8))
  obtain ⟨p0, p1, p2, p3, p4, p5, p6⟩ := cells6 (show w8.drew.heap[_]? = _ from HX8.out)
  have HB8D := Lib.hid (HB8.out.drew)
  have l8 : w.heap.size + 1 < w8.heap.size := lt_of_block HZ8.out
  go_region_with (first | (go_at_call 24; refine (HT.out _ HB8D.out).mono ?_; rintro e w9 ⟨hb9, v9, F9, rfl, ⟨T9, x9, fn9, rfl, ⟨m2, m3⟩, hc9⟩, hs9⟩; have HX9 := Lib.hid (blk hb9 (show w8.drew.heap[_]? = _ from HX8.out)); have HZ9 := Lib.hid (blk hb9 (show w8.drew.heap[_]? = _ from HZ8.out)); have HB9 := Lib.hid (below_call0 HB8D.out HB8D.out.size hb9); have HC9 := Lib.hid (hc9 w9 row _ _ _ _ _ _ ⟨Nat.le_refl _, fun _ _ _ => rfl⟩ (HL.out.below HB9.out) (HRV.out.grow HB9.out)); have HRR := Lib.hid (treeE_of hs9 row); have HS9 := Lib.hid hb9.size; clear hb9 hc9 hs9; obtain ⟨g0, g1, g2, g3, g4, g5, g6⟩ := cells6 HX9.out) | ((with_reducible refine (HC9.out).mono ?_); intro e w10 hev; rw [← HRR.out, HRZ.out] at hev; obtain ⟨hb10, d1, e1, d2, e2, rfl, hv10⟩ := hev.parts; have HV10 := Lib.hid hv10; have HB10 := Lib.hid (below_call0 HB9.out HB9.out.size hb10); obtain ⟨z0, z1, z2, z3, z4, z5, z6⟩ := cells6 (blk hb10 HZ9.out); clear hev hb10 hv10))
  all_goals
    go_wp2_with fail
    refine bodyPost_ret (v := .tuple #[.agg #[.int .u8 k, .bool b, .int .i64 n, .string s, .slice d1 l'.len e1, .slice d2 f.len e2], .int .i64 wy]) (by simp [results, Tryz.results9, go_sem, cell_set_same, z0, z1, z2, z3, z4, z5]) rfl ?_
    have hs9 : w8.heap.size ≤ w9.heap.size := HS9.out
    exact ⟨setCells_below (Nat.le_succ _) [_, _, _, _, _, _] 0 _ HB10.out, _, _, _, _, _, _, rfl, RV.above (us := [_, _, _, _, _, _]) HV10.out (by omega) (by omega) (Below.refl _ _)⟩
end
end Go.Proofs.YtbemgcjckchdjaaGreatDoor
/- expr.Eval and expr.Holds by one contract each. -/
namespace Go.Proofs.YtbemgcjckchdjaaGreatDoor
open Go.RowKit
set_option linter.unusedSimpArgs false
set_option linter.unusedVariables false
theorem right_parts {l : List ST} (h : rightB l = true) : rightAt l = some 1 ∧ l.length ≤ 128 := by
  unfold rightB at h
  simp only [Bool.and_eq_true, decide_eq_true_eq] at h
  exact h
theorem eval_calls (l : List ST) (a : Option Addr) (c : Nat) (row : VT) (r0 r1 r2 r3 r4 r5 : Value) (w : World) (hlen : l.length ≤ LIM) (hst : ∀ s ∈ l, StOk s) (hpl : Plain l) (hL : Laid w) (hrow : RowS w l a) (hr : RV w 0 w.heap.size row [r0, r1, r2, r3, r4, r5]) :
    Calls Tryz.prog 9 #[.slice a l.length c, .agg #[r0, r1, r2, r3, r4, r5]] w (EvPost w (evalE l row)) := by
  have hR := fun (w' : World) (hb : Below w.heap.size w w') => right_calls l a c w' (hL.below hb) hlen (fun s hs => (hst s hs).2.1) (hrow.keep hb)
  have hC := fun (w' : World) (hb : Below w.heap.size w w') => Check_any row w' _ 0 w'.heap.size (hr.grow hb) (Nat.le_refl _) (hL.below hb).tabs
  have hr0 := hr
  obtain ⟨kr, br, nr, sr, lr, fr, ar1, cr1, ar2, cr2, hrw, er, hj⟩ := RV.mk_parts hr
  clear hj
  simp only [List.cons.injEq, and_true] at er
  obtain ⟨rfl, rfl, rfl, rfl, rfl, rfl⟩ := er
  unfold evalE
  cases hb : rightB l with
  | false =>
    rw [hb] at hR
    rw [if_neg (by simp)]
    exact eval_syntax l a c kr br nr sr ar1 lr cr1 ar2 fr cr2 w hR
  | true =>
    rw [hb] at hR
    rw [if_pos rfl]
    by_cases hc : checkV row 0 = 0
    · rw [if_pos hc]
      rw [hc] at hC
      obtain ⟨h1, h2⟩ := right_parts hb
      exact eval_tree l a c kr br nr sr ar1 lr cr1 ar2 fr cr2 w row hrw hL hr0 hR hC (fun w' hb' => tree_calls l a c w' h2 h1 (hpl hb) hst (hL.below hb') (hrow.keep hb'))
    · rw [if_neg hc]
      exact eval_check l a c kr br nr sr ar1 lr cr1 ar2 fr cr2 w _ (by simpa using hc) hR hC
def HoldsPost (w : World) (r : Bool × Int) (e : Ending) (w' : World) : Prop := e = .returned (.tuple #[.bool r.1, .int .i64 r.2]) ∧ Below w.heap.size w w'
section
set_option maxHeartbeats 2000000
set_option maxRecDepth 100000
theorem holds_calls (l : List ST) (a : Option Addr) (c : Nat) (row : VT) (r0 r1 r2 r3 r4 r5 : Value) (w : World) (hlen : l.length ≤ LIM) (hst : ∀ s ∈ l, StOk s) (hpl : Plain l) (hL : Laid w) (hrow : RowS w l a) (hr : RV w 0 w.heap.size row [r0, r1, r2, r3, r4, r5]) :
    Calls Tryz.prog 18 #[.slice a l.length c, .agg #[r0, r1, r2, r3, r4, r5]] w (HoldsPost w (holdsE l row)) := by
  have HE := Lib.hid (fun (w' : World) (hb : Below w.heap.size w w') => eval_calls l a c row r0 r1 r2 r3 r4 r5 w' hlen hst hpl (hL.below hb) (hrow.keep hb) (hr.grow hb))
  have HC := Lib.hid (fun (w' : World) (hb : Below w.heap.size w w') => Check_any row w' _ 0 w'.heap.size (hr.grow hb) (Nat.le_refl _) (hL.below hb).tabs)
  obtain ⟨kr, br, nr, sr, lr, fr, ar1, cr1, ar2, cr2, hrw, er, hj⟩ := RV.mk_parts hr
  clear hj
  simp only [List.cons.injEq, and_true] at er
  obtain ⟨rfl, rfl, rfl, rfl, rfl, rfl⟩ := er
  unfold holdsE
  generalize checkV row 0 = y at *
  obtain ⟨⟨⟨k, b, n, s, l', f⟩, wy⟩, hrz⟩ : ∃ r : Rz, evalE l row = r := ⟨_, rfl⟩
  rw [hrz] at HE ⊢
  have hl1 : l.length ≤ 1048576 := hlen
  clear hst hpl hL hrow hr hrw hrz hlen
  show Calls _ _ _ _ (HoldsPost w (if l.length = 0 then (decide (y = 0), y) else if wy = 0 ∧ 1 < k then (false, 5) else (b, wy)))
  have HD := Lib.hid (below_new (w := w) (.cells #[.int .u8 kr, .bool br, .int .i64 nr, .string sr, .slice ar1 lr.len cr1, .slice ar2 fr.len cr2] 27))
  by_cases h0 : l.length = 0
  · rw [if_pos h0]
    have q0 : ((l.length : Int) == 0) = true := by simp [h0]
    rw [h0] at *
    go_enter Tryz.func18, Tryz.ntmps18
    go_wp2_with (go_at_call 17; refine (HC.out _ HD.out).mono ?_; rintro e w8 ⟨rfl, hb8⟩; have HB8 := Lib.hid (below_call0 HD.out HD.out.size hb8); clear hb8)
    go_ret2
    exact ⟨rfl, HB8.out⟩
  · rw [if_neg h0]
    have q0 : ((l.length : Int) == 0) = false := by rw [beq_eq_false_iff_ne]; omega
    have HN := Lib.hid h0
    clear h0
    generalize l.length = m at *
    by_cases hw : wy = 0
    · subst hw
      by_cases hk : 1 < k
      · rw [if_pos ⟨rfl, hk⟩]
        have hk' : decide (1 < k) = true := by simpa using hk
        go_enter Tryz.func18, Tryz.ntmps18
        go_wp2_with (go_at_call 9; refine (HE.out _ HD.out).mono ?_; intro e w8 hev; obtain ⟨hb8, d1, e1, d2, e2, rfl, hv8⟩ := hev.parts; have HB8 := Lib.hid (below_call0 HD.out HD.out.size hb8); clear hev hb8 hv8)
        go_ret2
        exact ⟨rfl, below_call0 HB8.out HB8.out.size (below_new _)⟩
      · rw [if_neg (fun h => hk h.2)]
        have hk' : decide (1 < k) = false := by simpa using hk
        go_enter Tryz.func18, Tryz.ntmps18
        go_wp2_with (go_at_call 9; refine (HE.out _ HD.out).mono ?_; intro e w8 hev; obtain ⟨hb8, d1, e1, d2, e2, rfl, hv8⟩ := hev.parts; have HB8 := Lib.hid (below_call0 HD.out HD.out.size hb8); clear hev hb8 hv8)
        go_ret2
        exact ⟨rfl, below_call0 HB8.out HB8.out.size (below_new _)⟩
    · rw [if_neg (fun h => hw h.1)]
      have hw' : (wy == 0) = false := by simpa using hw
      go_enter Tryz.func18, Tryz.ntmps18
      go_wp2_with (go_at_call 9; refine (HE.out _ HD.out).mono ?_; intro e w8 hev; obtain ⟨hb8, d1, e1, d2, e2, rfl, hv8⟩ := hev.parts; have HB8 := Lib.hid (below_call0 HD.out HD.out.size hb8); clear hev hb8 hv8)
      go_ret2
      exact ⟨rfl, below_call0 HB8.out HB8.out.size (below_new _)⟩
end
end Go.Proofs.YtbemgcjckchdjaaGreatDoor
