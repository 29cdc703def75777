import Derived.Test.YtgjgllfeinjpnaaGreatDoorKEj
/- expr.leaf. -/
namespace Go.Proofs.YtgjgllfeinjpnaaGreatDoor
open Go.RowKit
set_option linter.unusedSimpArgs false
set_option linter.unusedVariables false
/-- a step whose cells may stand in a row -/
def StOk (s : ST) : Prop := I64 s.n ∧ s.t.size ≤ LIM ∧ 0 ≤ s.k
def LeafPost (w : World) (F : VT → Rz) (e : Ending) (w' : World) : Prop := Below w.heap.size w w' ∧ ∃ v, e = .returned v ∧ v.oneCell' = true ∧ ∀ S : Nat → Prop, (∀ b, S b → b < w.heap.size) → Node S w' v F
theorem leaf_const {w w' : World} {k : Int} {b : Bool} {n : Int} {s : ByteArray} (hb : Below w.heap.size w w') (hv : ∀ (w' : World) lo hi, RV w' lo hi (.mk k b n s .nil .nil) [.int .u8 k, .bool b, .int .i64 n, .string s, .slice none 0 0, .slice none 0 0]) :
    LeafPost w (fun _ => (.mk k b n s .nil .nil, 0)) (.returned (.iface 79 (.agg #[.int .u8 k, .bool b, .int .i64 n, .string s, .slice none 0 0, .slice none 0 0]))) w' := ⟨hb, _, rfl, rfl, fun S _ => constant_node S w' k b n s hv⟩
section
set_option maxHeartbeats 1000000
variable (t : ByteArray) (n : Int) (w : World)
theorem leaf_true : Calls Tryz.prog 74 #[.agg #[.int .u8 2, .string t, .int .i64 n]] w (LeafPost w fun _ => (truthV true, 0)) := by
  have hD := below_new (w := w) (.cells #[.int .u8 2, .string t, .int .i64 n] 46)
  have HD := Lib.hid hD
  clear hD
  go_enter Tryz.func74, Tryz.ntmps74
  go_wp2_with (go_at_call 98; refine (truth_calls _ _).mono ?_; rintro e w4 ⟨rfl, hb4⟩; have HB4 := Lib.hid (below_call0 HD.out HD.out.size hb4); clear hb4)
  go_ret
  exact leaf_const HB4.out (fun w' lo hi => rv_truth true w')
theorem leaf_false : Calls Tryz.prog 74 #[.agg #[.int .u8 3, .string t, .int .i64 n]] w (LeafPost w fun _ => (truthV false, 0)) := by
  have hD := below_new (w := w) (.cells #[.int .u8 3, .string t, .int .i64 n] 46)
  have HD := Lib.hid hD
  clear hD
  go_enter Tryz.func74, Tryz.ntmps74
  go_wp2_with (go_at_call 98; refine (truth_calls _ _).mono ?_; rintro e w4 ⟨rfl, hb4⟩; have HB4 := Lib.hid (below_call0 HD.out HD.out.size hb4); clear hb4)
  go_ret
  exact leaf_const HB4.out (fun w' lo hi => rv_truth false w')
theorem leaf_int (hn : I64 n) : Calls Tryz.prog 74 #[.agg #[.int .u8 4, .string t, .int .i64 n]] w (LeafPost w fun _ => (intV n, 0)) := by
  have HN := Lib.hid hn
  clear hn
  go_enter Tryz.func74, Tryz.ntmps74
  go_wp2_with fail
  go_ret
  exact leaf_const (below_new _) (fun w' lo hi => rv_int n HN.out w')
theorem leaf_text (ht : t.size ≤ LIM) : Calls Tryz.prog 74 #[.agg #[.int .u8 5, .string t, .int .i64 n]] w (LeafPost w fun _ => (textV t, 0)) := by
  have HN := Lib.hid ht
  clear ht
  go_enter Tryz.func74, Tryz.ntmps74
  go_wp2_with fail
  go_ret
  exact leaf_const (below_new _) (fun w' lo hi => rv_text t HN.out w')
theorem leaf_null (k : Int) (k2 : (k == 2) = false) (k3 : (k == 3) = false) (k4 : (k == 4) = false) (k5 : (k == 5) = false) (k6 : (k == 6) = false) : Calls Tryz.prog 74 #[.agg #[.int .u8 k, .string t, .int .i64 n]] w (LeafPost w fun _ => (nullV, 0)) := by
  go_enter Tryz.func74, Tryz.ntmps74
  go_wp2_with fail
  go_ret
  exact leaf_const (below_new _) (fun w' lo hi => rv_null w')
theorem leaf_path (ht : t.size ≤ 1024) (hL : Laid w) : Calls Tryz.prog 74 #[.agg #[.int .u8 6, .string t, .int .i64 n]] w (LeafPost w fun row => ((getV row (splitS t dot)).getD nullV, 0)) := by
  have hD := below_new (w := w) (.cells #[.int .u8 6, .string t, .int .i64 n] 46)
  have HSP := Lib.hid (split_any t dot _ (by unfold LIM; omega) (by decide) (hL.below hD))
  have hlen : (splitS t dot).length ≤ LIM := by
    rw [splitS_length t dot (by decide)]
    have := Lib.countB_le dot (by decide) t.size t (Nat.le_refl _)
    unfold LIM
    omega
  have hsz : ∀ p ∈ splitS t dot, p.size ≤ LIM := fun p hp => by
    have := splitB_size dot _ t p hp
    unfold LIM
    omega
  have HLN := Lib.hid hlen
  have HSZ := Lib.hid hsz
  have HD := Lib.hid hD
  unfold dot at HSP
  clear hD hlen hsz ht hL
  go_enter Tryz.func74, Tryz.ntmps74
  go_wp2_with (go_at_call 73; refine (HSP.out).mono ?_; rintro e w4 ⟨g, rfl, hc4, hg4, hl4, hb4⟩; have HC4 := Lib.hid hc4; have HB4 := Lib.hid (below_call0 HD.out HD.out.size hb4); have HG4 := Lib.hid (Nat.le_trans HD.out.size hg4); have HL4 := Lib.hid hl4; clear hc4 hb4 hg4 hl4)
  go_ret
  refine ⟨HB4.out, _, rfl, rfl, fun S hS => ⟨_, _, _, rfl, meth_path _, fun w' row v0 v1 v2 v3 v4 v5 hl hL' hr => ?_⟩⟩
  refine path_calls' (splitS t dot) _ _ row v0 v1 v2 v3 v4 v5 w' hr hL' HLN.out HSZ.out (Or.inr ⟨g, 0, rfl, Nat.lt_of_lt_of_le HL4.out hl.1, fun i hi => ?_⟩)
  rw [Nat.zero_add]
  have hne : ¬ S g := fun h => by have := hS g h; have := HG4.out; omega
  exact (World.cell?_of_block (a := ⟨g, i, none⟩) (hl.2 g HL4.out hne)).trans (HC4.out i hi)
end
theorem leaf_calls (s : ST) (w : World) (hs : StOk s) (h6 : s.k = 6 → s.t.size ≤ 1024) (hL : Laid w) : Calls Tryz.prog 74 #[.agg #[.int .u8 s.k, .string s.t, .int .i64 s.n]] w (LeafPost w (leafR s)) := by
  obtain ⟨k, t, n⟩ := s
  have e : leafR ⟨k, t, n⟩ = fun row => if k = 2 ∨ k = 3 then (truthV (k == 2), 0) else if k = 4 then (intV n, 0) else if k = 5 then (textV t, 0) else if k = 6 then ((getV row (splitS t dot)).getD nullV, 0) else (nullV, 0) := rfl
  rw [e]
  obtain ⟨hn, ht, _⟩ := hs
  by_cases k2 : k = 2
  · subst k2; exact leaf_true t n w
  by_cases k3 : k = 3
  · subst k3; exact leaf_false t n w
  simp only [k2, k3, or_self, if_false]
  by_cases k4 : k = 4
  · subst k4; exact leaf_int t n w hn
  simp only [k4, if_false]
  by_cases k5 : k = 5
  · subst k5; exact leaf_text t n w ht
  simp only [k5, if_false]
  by_cases k6 : k = 6
  · subst k6; exact leaf_path t n w (h6 rfl) hL
  simp only [k6, if_false]
  exact leaf_null t n w k (by simpa using k2) (by simpa using k3) (by simpa using k4) (by simpa using k5) (by simpa using k6)
end Go.Proofs.YtgjgllfeinjpnaaGreatDoor
/- slices.Clone of nodes; expr.one. -/
namespace Go.Proofs.YtgjgllfeinjpnaaGreatDoor
open Go.RowKit
set_option linter.unusedSimpArgs false
set_option linter.unusedVariables false
theorem Tryz.infoN : (Tryz.prog.info? 63).map (fun i => (i.zero, i.size, i.bytes)) = some (some .nilIface, 1, 16) := by kernel_rfl
set_option maxHeartbeats 1000000 in
set_option maxRecDepth 100000 in
theorem clone_N (w : World) (xs : List Value) (a : Option Addr) (c : Nat) (hl : xs.length ≤ 1000) (h0 : a = none → xs.length = 0) (hx2 : ∀ ad, a = some ad → ∀ j u, xs[j]? = some u → w.cell? (ad.add j) = some u) (hx3 : ∀ u ∈ xs, u.oneCell' = true) :
    Calls Tryz.prog 47 #[.slice a xs.length c] w fun x w' => ∃ v, x = .returned v ∧ w'.ownsRow w.heap.size 63 1 v xs.length xs ∧ Below w.heap.size w w' := by
  cases a with
  | none =>
    have e0 := h0 rfl
    have HE := Lib.hid e0
    rw [e0]
    clear h0 hx2 hx3 e0 hl
    have hnil : ∀ w : World, (binOp .eql 101 (.slice none 0 c) (.slice none 0 0)).run Tryz.prog w = .ok (.bool true) w := fun w => Lib.run_eql_slice_nil w 101 63 none 0 c 0 0 Tryz.underlying101
    go_enter Tryz.func47, Tryz.ntmps47
    go_wp2_with fail
    go_ret
    exact ⟨.slice none 0 0, rfl, ⟨by rw [HE.out], Or.inl ⟨rfl, rfl⟩⟩, Below.refl _ _⟩
  | some ad =>
    obtain ⟨n, hn⟩ : ∃ n, xs.length = n := ⟨_, rfl⟩
    rw [hn] at hl ⊢
    obtain ⟨i0, hi0, hz0, hz1, hz2⟩ := info_parts Tryz.infoN
    have HX : Hid (xs.length = n * 1) := Lib.hid (by omega)
    have H2 := Lib.hid (hx2 ad rfl)
    have H3 := Lib.hid hx3
    clear h0 hx2 hx3 hn
    have hnil : ∀ w : World, (binOp .eql 101 (.slice (some ad) n c) (.slice none 0 0)).run Tryz.prog w = .ok (.bool false) w := fun w => Lib.run_eql_slice_nil w 101 63 (some ad) n c 0 0 Tryz.underlying101
    go_enter Tryz.func47, Tryz.ntmps47
    go_wp2_with (at_builtin; refine wpList_append_own _ rfl _ _ 101 rfl w.heap.size 63 i0 .nilIface 1 16 Tryz.underlying101 hi0 hz0 hz1 hz2 rfl (by decide) _ 0 [] rfl (owns_empty w 63 1) ad n c xs rfl HX.out (fun j u e => keepA ((Below.refl w.heap.size w).alloc (Nat.le_refl _) _) (H2.out j u e)) H3.out (by unfold maxLen; omega) (by omega) (by simp) ?_; intro v' w1 hown hgrow hiff)
    go_ret
    have hbw : Below w.heap.size w w1 := (((Below.refl w.heap.size w).alloc (Nat.le_refl _) (.cells #[] 63))).grown hgrow (by simp) (fun k hk => by cases hk; exact Nat.le_refl _)
    exact ⟨v', rfl, by simpa using hown, hbw⟩
def oneF (s : ST) (fs : List (VT → Rz)) : VT → Rz := fun row => oneR s row (fs.map fun f => f row)
def OnePost (S : Nat → Prop) (w : World) (F : VT → Rz) (e : Ending) (w' : World) : Prop := Below w.heap.size w w' ∧ ∃ v, e = .returned v ∧ v.oneCell' = true ∧ Node S w' v F
section
set_option maxHeartbeats 1000000
set_option maxRecDepth 100000
theorem one_leaf (S : Nat → Prop) (s : ST) (c : Nat) (A : Option Addr) (w : World) (hs : StOk s) (h6 : s.k = 6 → s.t.size ≤ 1024) (hL : Laid w) (hS : ∀ b, S b → b < w.heap.size) (h7 : s.k ≠ 7) (h8 : s.k ≠ 8) (h21 : s.k ≠ 21) (h22 : s.k ≠ 22) :
    Calls Tryz.prog 46 #[.agg #[.int .u8 s.k, .string s.t, .int .i64 s.n], .slice A 0 c] w (OnePost S w (oneF s [])) := by
  have hD := below_new (w := w) (.cells #[.int .u8 s.k, .string s.t, .int .i64 s.n] 46)
  have H := Lib.hid (leaf_calls s _ hs h6 (hL.below hD))
  have HD := Lib.hid hD
  have HS := Lib.hid hS
  have e : oneF s [] = leafR s := by
    funext row
    unfold oneF oneR
    rw [if_neg h7, if_neg h8, if_neg (by omega)]
    rfl
  rw [e]
  obtain ⟨k, t, n⟩ := s
  simp only at h7 h8 h21 h22
  have q7 : (k == 7) = false := by simpa using h7
  have q8 : (k == 8) = false := by simpa using h8
  have q21 : (k == 21) = false := by simpa using h21
  have q22 : (k == 22) = false := by simpa using h22
  clear hs h6 hL hS h7 h8 h21 h22 e hD
  go_enter Tryz.func46, Tryz.ntmps46
  go_wp2_with (go_at_call 74; refine (H.out).mono ?_; rintro e w4 ⟨hb4, v, rfl, hv1, hv⟩; have HB4 := Lib.hid (below_call0 HD.out HD.out.size hb4); have HV := Lib.hid hv; have HV1 := Lib.hid hv1; clear hb4 hv hv1)
  go_ret
  exact ⟨HB4.out, v, rfl, HV1.out, HV.out S (fun b hb => Nat.lt_of_lt_of_le (HS.out b hb) HD.out.size)⟩
theorem one_oper (S : Nat → Prop) (s : ST) (fs : List (VT → Rz)) (c : Nat) (A : Option Addr) (w : World) (hN : NodeRow S w fs A) (hk : (9 ≤ s.k ∧ s.k ≤ 11 ∧ fs.length = 1) ∨ (12 ≤ s.k ∧ s.k ≤ 20 ∧ fs.length = 2)) :
    Calls Tryz.prog 46 #[.agg #[.int .u8 s.k, .string s.t, .int .i64 s.n], .slice A fs.length c] w (OnePost S w (oneF s fs)) := by
  have hD := below_new (w := w) (.cells #[.int .u8 s.k, .string s.t, .int .i64 s.n] 46)
  have HD := Lib.hid hD
  have HN := Lib.hid hN
  have e : oneF s fs = fun row => operR s.k (fs.map fun f => f row) := by
    funext row
    unfold oneF oneR
    have hne : (fs.map fun f => f row).isEmpty = false := by
      cases fs with
      | nil => simp at hk
      | cons a b => rfl
    rw [if_neg (by omega), if_neg (by omega), if_neg (by omega), if_neg (by rw [hne]; simp)]
  rw [e]
  have HK := Lib.hid hk
  obtain ⟨k, t, n⟩ := s
  simp only at hk ⊢
  have q7 : (k == 7) = false := by simp; omega
  have q8 : (k == 8) = false := by simp; omega
  have q21 : (k == 21) = false := by simp; omega
  have q22 : (k == 22) = false := by simp; omega
  have q0 : ((fs.length : Int) == 0) = false := by simp; intro h; simp [h] at hk
  have l0 : fs.length ≤ 2 := by omega
  clear hN hk e hD
  go_enter Tryz.func46, Tryz.ntmps46
  go_wp2_with fail
  go_ret
  refine ⟨HD.out, _, rfl, rfl, _, _, _, rfl, meth_operator _, fun w' row v0 v1 v2 v3 v4 v5 hl hL' hr => ?_⟩
  exact operator_calls S k fs A c row v0 v1 v2 v3 v4 v5 w' HK.out ((HN.out.later (Later.of_below HD.out)).later hl) hL' hr
theorem one_logic (S : Nat → Prop) (s : ST) (f g : VT → Rz) (c : Nat) (A : Option Addr) (w : World) (hN : NodeRow S w [f, g] A) (hk : s.k = 21 ∨ s.k = 22) (hc : 2 ≤ c) :
    Calls Tryz.prog 46 #[.agg #[.int .u8 s.k, .string s.t, .int .i64 s.n], .slice A 2 c] w (OnePost S w (oneF s [f, g])) := by
  have hD := below_new (w := w) (.cells #[.int .u8 s.k, .string s.t, .int .i64 s.n] 46)
  have hX := heap_last w (.cells #[.int .u8 s.k, .string s.t, .int .i64 s.n] 46)
  have hN2 := hN.later (Later.of_below (S := S) hD)
  have HD := Lib.hid hD
  have e : oneF s [f, g] = fun row => logicR (s.k == 22) (f row) (g row) := by
    funext row
    unfold oneF oneR
    rw [if_neg (by omega), if_neg (by omega), if_pos hk]
    rfl
  rw [e]
  rcases hN2 with h0 | ⟨b, o, rfl, hb, hSb, hcc⟩
  · cases h0
  obtain ⟨va, ha, hna⟩ := hcc 0 (by simp)
  obtain ⟨vb, hb2, hnb⟩ := hcc 1 (by simp)
  simp only [Nat.add_zero, List.getElem_cons_zero, List.getElem_cons_succ] at ha hb2 hna hnb
  have HNA := Lib.hid hna
  have HNB := Lib.hid hnb
  obtain ⟨Ta, xa, fa, rfl, _⟩ := hna
  obtain ⟨Tb, xb, fb, rfl, _⟩ := hnb
  obtain ⟨k, t, n⟩ := s
  simp only at hk ⊢ hX ha hb2 HD HNA HNB
  have q7 : (k == 7) = false := by simp; omega
  have q8 : (k == 8) = false := by simp; omega
  have lw : w.heap.size < (w.alloc (.cells #[.int .u8 k, .string t, .int .i64 n] 46)).heap.size := by simp
  clear hN e hD hcc hSb
  go_enter Tryz.func46, Tryz.ntmps46
  go_upto_region 1 with (fail)
  generalize w.alloc (.cells #[.int .u8 k, .string t, .int .i64 n] 46) = W at *
  obtain ⟨x0, x1, x2, x3⟩ := cells3 hX
  clear hX
  have HKK := Lib.hid hk
  rcases hk with rfl | rfl
  all_goals
    go_upto_region 6 with (fail)
    go_quiet (fail)
    go_wp2_with fail
    go_ret
    refine ⟨HD.out.trans ((below_drewN _ _).mono HD.out.size), _, rfl, rfl, _, _, _, rfl, meth_logic _, fun w' row v0 v1 v2 v3 v4 v5 hl hL' hr => ?_⟩
    have hl2 : Later S W w' := Later.trans ⟨Nat.le_refl _, fun _ _ _ => rfl⟩ hl
    exact logic_calls S _ Ta xa Tb xb f g row v0 v1 v2 v3 v4 v5 w' (HNA.out.later hl2) (HNB.out.later hl2) hL' hr
end
end Go.Proofs.YtgjgllfeinjpnaaGreatDoor
