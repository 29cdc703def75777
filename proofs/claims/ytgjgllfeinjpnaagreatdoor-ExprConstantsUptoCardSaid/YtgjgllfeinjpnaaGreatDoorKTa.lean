import Derived.Test.YtgjgllfeinjpnaaGreatDoorKMd
/- The node of a step that takes nothing: a constant, or none (printed by gentree.py). -/
namespace Go.Proofs.YtgjgllfeinjpnaaGreatDoor
open Go.RowKit
set_option linter.unusedSimpArgs false
set_option linter.unusedVariables false
/-- the node: a constant of this value, or no constant -/
def ConstV (o : Option VT) (v : Value) : Prop := match o with
  | some (.mk k b n s _ _) => v = .iface 79 (.agg #[.int .u8 k, .bool b, .int .i64 n, .string s, .slice none 0 0, .slice none 0 0])
  | none => ∃ T x, v = .iface T x ∧ T ≠ 79
def FirstPost (w : World) (o : Option VT) (e : Ending) (w' : World) : Prop := Below w.heap.size w w' ∧ ∃ v, e = .returned v ∧ v.oneCell' = true ∧ ConstV o v
/-- what the first step's constant holds -/
def firstO (s : ST) : Option VT := if s.k = 6 ∨ s.k = 7 ∨ s.k = 8 then none else some (if s.k = 2 ∨ s.k = 3 then truthV (s.k == 2) else if s.k = 4 then intV s.n else if s.k = 5 then textV s.t else nullV)
section
set_option maxHeartbeats 1000000
variable (t : ByteArray) (n : Int) (w : World)
theorem leaf_trueC : Calls Tryz.prog 74 #[.agg #[.int .u8 2, .string t, .int .i64 n]] w (FirstPost w (some (truthV true))) := by
  have hD := below_new (w := w) (.cells #[.int .u8 2, .string t, .int .i64 n] 46)
  have HD := Lib.hid hD
  clear hD
  go_enter Tryz.func74, Tryz.ntmps74
  go_wp2_with (go_at_call 98; refine (truth_calls _ _).mono ?_; rintro e w4 ⟨rfl, hb4⟩; have HB4 := Lib.hid (below_call0 HD.out HD.out.size hb4); clear hb4)
  go_ret
  exact ⟨HB4.out, _, rfl, rfl, rfl⟩
theorem leaf_falseC : Calls Tryz.prog 74 #[.agg #[.int .u8 3, .string t, .int .i64 n]] w (FirstPost w (some (truthV false))) := by
  have hD := below_new (w := w) (.cells #[.int .u8 3, .string t, .int .i64 n] 46)
  have HD := Lib.hid hD
  clear hD
  go_enter Tryz.func74, Tryz.ntmps74
  go_wp2_with (go_at_call 98; refine (truth_calls _ _).mono ?_; rintro e w4 ⟨rfl, hb4⟩; have HB4 := Lib.hid (below_call0 HD.out HD.out.size hb4); clear hb4)
  go_ret
  exact ⟨HB4.out, _, rfl, rfl, rfl⟩
theorem leaf_intC (hn : I64 n) : Calls Tryz.prog 74 #[.agg #[.int .u8 4, .string t, .int .i64 n]] w (FirstPost w (some (intV n))) := by
  have HN := Lib.hid hn
  clear hn
  go_enter Tryz.func74, Tryz.ntmps74
  go_wp2_with fail
  go_ret
  exact ⟨(below_new _), _, rfl, rfl, rfl⟩
theorem leaf_textC (ht : t.size ≤ LIM) : Calls Tryz.prog 74 #[.agg #[.int .u8 5, .string t, .int .i64 n]] w (FirstPost w (some (textV t))) := by
  have HN := Lib.hid ht
  clear ht
  go_enter Tryz.func74, Tryz.ntmps74
  go_wp2_with fail
  go_ret
  exact ⟨(below_new _), _, rfl, rfl, rfl⟩
theorem leaf_nullC (k : Int) (k2 : (k == 2) = false) (k3 : (k == 3) = false) (k4 : (k == 4) = false) (k5 : (k == 5) = false) (k6 : (k == 6) = false) : Calls Tryz.prog 74 #[.agg #[.int .u8 k, .string t, .int .i64 n]] w (FirstPost w (some nullV)) := by
  go_enter Tryz.func74, Tryz.ntmps74
  go_wp2_with fail
  go_ret
  exact ⟨(below_new _), _, rfl, rfl, rfl⟩
theorem leaf_pathC (ht : t.size ≤ 1024) (hL : Laid w) : Calls Tryz.prog 74 #[.agg #[.int .u8 6, .string t, .int .i64 n]] w (FirstPost w none) := by
  have hD := below_new (w := w) (.cells #[.int .u8 6, .string t, .int .i64 n] 46)
  have HSP := Lib.hid (split_any t dot _ (by unfold LIM; omega) (by decide) (hL.below hD))
  have hlen : (splitS t dot).length ≤ LIM := by
    rw [splitS_length t dot (by decide)]
    have := Lib.countB_le dot (by decide) t.size t (Nat.le_refl _)
    unfold LIM
    omega
  have hsz : ∀ p ∈ splitS t dot, p.size ≤ LIM := fun p hp => by
    have := splitB_size dot _ t p hp
    unfold LIM
    omega
  have HLN := Lib.hid hlen
  have HSZ := Lib.hid hsz
  have HD := Lib.hid hD
  unfold dot at HSP
  clear hD hlen hsz ht hL
  go_enter Tryz.func74, Tryz.ntmps74
  go_wp2_with (go_at_call 73; refine (HSP.out).mono ?_; rintro e w4 ⟨g, rfl, hc4, hg4, hl4, hb4⟩; have HC4 := Lib.hid hc4; have HB4 := Lib.hid (below_call0 HD.out HD.out.size hb4); have HG4 := Lib.hid (Nat.le_trans HD.out.size hg4); have HL4 := Lib.hid hl4; clear hc4 hb4 hg4 hl4)
  go_ret
  exact ⟨HB4.out, _, rfl, rfl, _, _, rfl, by decide⟩
end
theorem leaf_callsC (s : ST) (w : World) (hs : StOk s) (h6 : s.k = 6 → s.t.size ≤ 1024) (h7 : s.k ≠ 7) (h8 : s.k ≠ 8) (hL : Laid w) : Calls Tryz.prog 74 #[.agg #[.int .u8 s.k, .string s.t, .int .i64 s.n]] w (FirstPost w (firstO s)) := by
  obtain ⟨k, t, n⟩ := s
  unfold firstO
  simp only at h7 h8 h6 ⊢
  obtain ⟨hn, ht, _⟩ := hs
  by_cases k6 : k = 6
  · subst k6; exact leaf_pathC t n w (h6 rfl) hL
  rw [if_neg (by omega)]
  by_cases k2 : k = 2
  · subst k2; exact leaf_trueC t n w
  by_cases k3 : k = 3
  · subst k3; exact leaf_falseC t n w
  simp only [k2, k3, or_self, if_false]
  by_cases k4 : k = 4
  · subst k4; exact leaf_intC t n w hn
  simp only [k4, if_false]
  by_cases k5 : k = 5
  · subst k5; exact leaf_textC t n w ht
  simp only [k5, if_false]
  exact leaf_nullC t n w k (by simpa using k2) (by simpa using k3) (by simpa using k4) (by simpa using k5) (by simpa using k6)
section
set_option maxHeartbeats 1000000
set_option maxRecDepth 100000
theorem one_firstC (s : ST) (c : Nat) (A : Option Addr) (w : World) (hs : StOk s) (h6 : s.k = 6 → s.t.size ≤ 1024) (hL : Laid w) (h21 : s.k ≠ 21) (h22 : s.k ≠ 22) :
    Calls Tryz.prog 46 #[.agg #[.int .u8 s.k, .string s.t, .int .i64 s.n], .slice A 0 c] w (FirstPost w (firstO s)) := by
  have hD := below_new (w := w) (.cells #[.int .u8 s.k, .string s.t, .int .i64 s.n] 46)
  have HD := Lib.hid hD
  by_cases k7 : s.k = 7
  · have e : firstO s = none := if_pos (Or.inr (Or.inl k7))
    rw [e]
    obtain ⟨k, t, n⟩ := s
    simp only at k7 HD ⊢
    subst k7
    clear hs h6 hL h21 h22 e hD
    go_enter Tryz.func46, Tryz.ntmps46
    go_wp2_with fail
    go_ret
    exact ⟨HD.out, _, rfl, rfl, _, _, rfl, by decide⟩
  by_cases k8 : s.k = 8
  · have e : firstO s = none := if_pos (Or.inr (Or.inr k8))
    have HSP := Lib.hid (split_any s.t comma _ hs.2.1 (by decide) (hL.below hD))
    rw [e]
    obtain ⟨k, t, n⟩ := s
    simp only at k8 HD HSP ⊢
    subst k8
    unfold comma at HSP
    clear hs h6 hL h21 h22 e hD k7
    go_enter Tryz.func46, Tryz.ntmps46
    go_wp2_with (go_at_call 73; refine (HSP.out).mono ?_; rintro e w4 ⟨g, rfl, hc4, hg4, hl4, hb4⟩; have HB4 := Lib.hid (below_call0 HD.out HD.out.size hb4); clear hc4 hb4 hg4 hl4)
    go_ret
    exact ⟨HB4.out, _, rfl, rfl, _, _, rfl, by decide⟩
  have H := Lib.hid (leaf_callsC s _ hs h6 k7 k8 (hL.below hD))
  obtain ⟨o, ho⟩ : ∃ o, firstO s = o := ⟨_, rfl⟩
  rw [ho] at H ⊢
  obtain ⟨k, t, n⟩ := s
  simp only at k7 k8 h21 h22
  have q7 : (k == 7) = false := by simpa using k7
  have q8 : (k == 8) = false := by simpa using k8
  have q21 : (k == 21) = false := by simpa using h21
  have q22 : (k == 22) = false := by simpa using h22
  clear hs h6 hL k7 k8 h21 h22 ho hD
  go_enter Tryz.func46, Tryz.ntmps46
  go_wp2_with (go_at_call 74; refine (H.out).mono ?_; rintro e w4 ⟨hb4, v, rfl, hv1, hv⟩; have HB4 := Lib.hid (below_call0 HD.out HD.out.size hb4); have HV := Lib.hid hv; have HV1 := Lib.hid hv1; clear hb4 hv hv1)
  go_ret
  exact ⟨HB4.out, v, rfl, HV1.out, HV.out⟩
end
end Go.Proofs.YtgjgllfeinjpnaaGreatDoor
/- expr.tree of one step that takes nothing (printed by gentree.py). -/
namespace Go.Proofs.YtgjgllfeinjpnaaGreatDoor
open Go.RowKit
set_option linter.unusedSimpArgs false
set_option linter.unusedVariables false
theorem constV_iface {o : Option VT} {v : Value} (h : ConstV o v) : ∃ T x, v = .iface T x := by
  match o, h with
  | some (.mk _ _ _ _ _ _), h => exact ⟨_, _, h⟩
  | none, ⟨T, x, h, _⟩ => exact ⟨T, x, h⟩
def TreeC (w wr : World) (o : Option VT) (sv : Value) : Prop := ∃ v, wr.ownsRow w.heap.size 63 1 sv 1 [v] ∧ ConstV o v ∧ Below w.heap.size w wr
theorem treeC_step {w wr w9 w2 : World} {g' cap' : Nat} {v9 : Value} {p : Option VT} {o : Obj} (hB : Below w.heap.size w wr) (h9 : Below wr.heap.size wr w9) (hv9 : v9.oneCell' = true) (hn9 : ConstV p v9)
    (hgrow : (w9.alloc o).grownBy w2 (Value.slice none 0 0).ownBlock) (hown : w2.ownsRow w.heap.size 63 1 (.slice (some ⟨g', 0, none⟩) (0 + 1) cap') (0 + 1) ([] ++ [v9])) :
    TreeC w w2 p (.slice (some ⟨g', 0, none⟩) (0 + 1) cap') := by
  have h1 := below_call0 hB hB.size h9
  exact ⟨v9, hown, hn9, (h1.alloc h1.size o).grown hgrow (by have : (w9.alloc o).heap.size = w9.heap.size + 1 := by simp
                                                             rw [this]; have := h1.size; omega) (fun k hk => by cases hk)⟩
set_option maxHeartbeats 4000000 in
set_option maxRecDepth 100000 in
theorem treeC_calls (s : ST) (b o : Nat) (c : Nat) (w : World) (hs : StOk s) (hok : s.ok = true) (hq : s.takes = 0) (hL : Laid w) (hr : w.cell? ⟨b, o, none⟩ = some (.int .u8 s.k) ∧ w.cell? ⟨b, o + 1, none⟩ = some (.string s.t) ∧ w.cell? ⟨b, o + 2, none⟩ = some (.int .i64 s.n)) :
    Calls Tryz.prog 23 #[.slice (some ⟨b, o, none⟩) 1 c] w (FirstPost w (firstO s)) := by
  have HR := Lib.hid hr
  have HL := Lib.hid hL
  have HSO := Lib.hid hs
  have H6 := Lib.hid (fun h => ok_path hok h : s.k = 6 → s.t.size ≤ 1024)
  have H2 : Hid (s.k ≠ 21 ∧ s.k ≠ 22) := Lib.hid (by
    unfold ST.takes stepN at hq
    constructor <;> (intro h; rw [h] at hq; simp at hq))
  have HTK0 := fun (w' : World) (hb : Below w.heap.size w w') => takes_any s.k s.t s.n w' hs.2.1 (hL.below hb)
  rw [takesV_ok s hok, hq] at HTK0
  have HTK := Lib.hid HTK0
  clear hr hL hs HTK0 hok hq
  go_enter Tryz.func23, Tryz.ntmps23
  go_wp2_with fail
  go_loopw [3, 12] (fun s3 s12 wr => ∃ (i : Nat) (sv : Value), s3 = sv ∧ s12 = .int .i64 i ∧ ((i = 0 ∧ sv = .slice none 0 0 ∧ Below w.heap.size w wr) ∨ (i = 1 ∧ TreeC w wr (firstO s) sv))) (fun _ s12 _ => 1 - (intOf s12).toNat)
  case atStart => exact ⟨0, _, rfl, rfl, Or.inl ⟨rfl, rfl, Below.refl _ _⟩⟩
  case round =>
    obtain ⟨i, sv, e3, rfl, hcase⟩ := hrel
    have e3 := e3.symm
    subst e3
    rcases hcase with ⟨rfl, e, hB⟩ | ⟨rfl, v, hO, hcv, hB⟩
    · subst e
      have HB := Lib.hid hB
      have c0 := keepC hB HR.out.1
      have c1 := keepC hB HR.out.2.1
      have c2 := keepC hB HR.out.2.2
      clear hB
      have hbx := below_new (w := wr) (.cells #[.int .u8 s.k, .string s.t, .int .i64 s.n] 46)
      have HTK1 := Lib.hid (HTK.out _ (below_call0 HB.out HB.out.size hbx))
      have HBX := Lib.hid hbx
      clear hbx
      go_upto_region 7 with (go_at_call 33; refine (HTK1.out).mono ?_; rintro e w6 ⟨rfl, hb6⟩; have HB6 := Lib.hid hb6; clear hb6)
      have hk6 := blk HB6.out (blk_last (o := .cells #[.int .u8 s.k, .string s.t, .int .i64 s.n] 46) (w := wr))
      have HB60 := Lib.hid (below_call0 HBX.out HBX.out.size HB6.out)
      obtain ⟨k0, k1, k2, k3⟩ := cells3 (show w6.drew.heap[wr.heap.size]? = some (.cells #[.int .u8 s.k, .string s.t, .int .i64 s.n] 46 (0, 0)) from hk6)
      have HSD : Hid (w6.drew.cell? ⟨wr.heap.size, 0, none⟩ = some (.int .u8 s.k) ∧ w6.drew.cell? ⟨wr.heap.size, 1, none⟩ = some (.string s.t) ∧ w6.drew.cell? ⟨wr.heap.size, 2, none⟩ = some (.int .i64 s.n)) := Lib.hid ⟨k0, k1, k2⟩
      have HB6D := Lib.hid (below_call0 HB60.out HB60.out.size (Below.refl w6.heap.size w6).drew)
      have HCL : Hid (∀ w', Calls Tryz.prog 47 #[.slice none 0 0] w' fun x w2 => ∃ v, x = .returned v ∧ w2.ownsRow w'.heap.size 63 1 v 0 [] ∧ Below w'.heap.size w' w2) := Lib.hid (fun w' => clone_N w' [] none 0 (by simp) (fun _ => rfl) (fun ad e => by cases e) (by simp))
      have HN1 : Hid (∀ (w8 : World) (A8 : Option Addr) (c8 : Nat), Below wr.heap.size wr w8 → Calls Tryz.prog 46 #[.agg #[.int .u8 s.k, .string s.t, .int .i64 s.n], .slice A8 0 c8] w8 (FirstPost w8 (firstO s))) := Lib.hid (fun w8 A8 c8 hb1 => one_firstC s c8 A8 w8 HSO.out H6.out (HL.out.below (below_call0 HB.out HB.out.size hb1)) H2.out.1 H2.out.2)
      have l6 : wr.heap.size < w6.heap.size := lt_of_block hk6
      clear k0 k1 k2 k3 hk6
      go_region_held3 (fun w' => w'.cell? ⟨wr.heap.size, 0, none⟩ = some (.int .u8 s.k) ∧ w'.cell? ⟨wr.heap.size, 1, none⟩ = some (.string s.t) ∧ w'.cell? ⟨wr.heap.size, 2, none⟩ = some (.int .i64 s.n))
        (first | (with_reducible exact HSD.out) | (with_reducible exact HS8.out) | (with_reducible exact HS9.out))
        (first | (go_at_call 47; refine (HCL.out _).mono ?_; rintro e w8 ⟨v8, rfl, ho8, hb8⟩; obtain ⟨A8, c8, rfl, hc8, _⟩ := owns_val ho8; have HS8 : Hid (w8.cell? ⟨wr.heap.size, 0, none⟩ = some (.int .u8 s.k) ∧ w8.cell? ⟨wr.heap.size, 1, none⟩ = some (.string s.t) ∧ w8.cell? ⟨wr.heap.size, 2, none⟩ = some (.int .i64 s.n)) := Lib.hid ⟨keepC hb8 HSD.out.1, keepC hb8 HSD.out.2.1, keepC hb8 HSD.out.2.2⟩; have HB8 := Lib.hid (below_call0 HB6D.out HB6D.out.size hb8); clear ho8 hb8) | (go_at_call 46; refine (HN1.out _ _ _ HB8.out).mono ?_; rintro e w9 ⟨hb9, v9, rfl, ho9, hn9⟩; have HN9 := Lib.hid hn9; have HS9 : Hid (w9.cell? ⟨wr.heap.size, 0, none⟩ = some (.int .u8 s.k) ∧ w9.cell? ⟨wr.heap.size, 1, none⟩ = some (.string s.t) ∧ w9.cell? ⟨wr.heap.size, 2, none⟩ = some (.int .i64 s.n)) := Lib.hid ⟨keepC hb9 HS8.out.1, keepC hb9 HS8.out.2.1, keepC hb9 HS8.out.2.2⟩; have HB9 := Lib.hid (below_call0 HB8.out HB8.out.size hb9); obtain ⟨T9, x9, rfl⟩ := constV_iface hn9; clear hb9))
      all_goals
        obtain ⟨i0, hi0, hz00, hz1, hz2⟩ := info_parts Tryz.infoN
        have E1 : Hid (0 + 1 ≤ maxLen) := Lib.hid (by unfold maxLen; omega)
        have E2 : Hid ((0 + 1) * 16 ≤ 140737488355328) := Lib.hid (by omega)
        have E3 : Hid (w.heap.size ≤ (w9.alloc (.cells #[.iface T9 x9] 63)).heap.size) := Lib.hid (by have := HB9.out.size; have := HB.out.size; simp; omega)
        have E5 : Hid (∀ u ∈ ([.iface T9 x9] : List Value), u.oneCell' = true) := Lib.hid (by intro u hu; simp only [List.mem_singleton] at hu; subst hu; rfl)
        go_wp2_with (at_builtin; refine wpList_append_lies _ rfl _ _ 101 rfl w.heap.size 63 i0 .nilIface 1 16 Tryz.underlying101 hi0 hz00 hz1 hz2 rfl (by decide) (.slice none 0 0) 0 [] (by rfl) (World.ownsRow_nil _ _ _ _) ⟨w9.heap.size, 0, none⟩ 1 1 [.iface T9 x9] (by rfl) rfl one_at E5.out (by decide) E1.out E2.out E3.out (w9.heap.size + 1) (by simp) ?_; intro g' cap' w2 hown hgrow hat2 hlt2; have HTS := Lib.hid (treeC_step HB.out HB9.out rfl HN9.out hgrow hown); clear hown hgrow hat2 hlt2)
        go_roundw
        case rel => exact ⟨1, _, rfl, by go_num, Or.inr ⟨rfl, HTS.out⟩⟩
        case measure => simp [intOf]
    · have HB := Lib.hid hB
      have HCV := Lib.hid hcv
      obtain ⟨Tv, xv, rfl⟩ := constV_iface hcv
      rcases hO.2 with ⟨_, h0⟩ | ⟨g, cap, cur, e, hBg, hg, hc1, hc2, hcs, htk⟩
      · cases h0
      · subst e
        have hcell := hO.cellAt 0 (by simp)
        rw [show ([Value.iface Tv xv])[0]? = some (.iface Tv xv) from rfl] at hcell
        clear hB hcv hBg hg hc1 hc2 hcs htk hO
        go_wp2_with fail
        go_ret
        exact ⟨HB.out, _, rfl, rfl, HCV.out⟩
end Go.Proofs.YtgjgllfeinjpnaaGreatDoor
