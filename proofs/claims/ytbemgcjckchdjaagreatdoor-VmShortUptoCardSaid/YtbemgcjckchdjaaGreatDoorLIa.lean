import Derived.Test.YtbemgcjckchdjaaGreatDoorLVj
import Derived.Shelf.Spec.SlicesInsertGrow
import Derived.Lib.Hide
import Derived.Deep.AppendLies
import Derived.Test.YtbemgcjckchdjaaGreatDoorLEe
import Derived.Test.YtbemgcjckchdjaaGreatDoorLVn
import Derived.Test.YtbemgcjckchdjaaGreatDoorLEa
/- slices.Insert at fields: one more in a row of the caller's own. The walks are turned from the shelf's worked ones (slices.Insert at strings) to elements of seven cells. -/
namespace Go.Proofs.YtbemgcjckchdjaaGreatDoor
open Go.RowKit
set_option linter.unusedSimpArgs false
set_option linter.unusedVariables false
theorem CM {P : Program} (w : World) (dT sT ty elem : TypeId) (sz b o dLen dCap : Nat) (a : Addr) (sLen sCap m : Nat) (cs : List Value)
   (hu : P.underlying dT = some (.slice elem)) (hs : (P.info? elem).map (·.size) = some sz) (hm : Nat.min sLen dLen = m) (hn : cs.length = m * sz)
   (hsrc : ∀ j v, cs[j]? = some v → w.cell? (a.add j) = some v) (hc : ∀ j, j < cs.length → (w.cell? ⟨b, o + j, none⟩).isSome = true) (hf : ∀ j, j < cs.length → w.frozen? ⟨b, o + j, none⟩ = false) (h1 : ∀ v ∈ cs, v.oneCell' = true) :
   (Builtin.copy_ #[dT, sT] ty #[.slice (some ⟨b, o, none⟩) dLen dCap, .slice (some a) sLen sCap]).run P w = .ok (goInt m) (w.setCells b o cs) := by
 have hl := run_loadCells_list (P := P) w a cs hsrc
 have hst := run_storeCells_cells (P := P) b o cs 0 w (by simpa using hc) (by simpa using hf) h1
 cases hq : P.info? elem with
 | none => simp [hq] at hs
 | some i =>
   have hi : i.size = sz := by simpa [hq] using hs
   simp [Builtin.copy_, run_underlying hu, Builtin.lenOf, Builtin.firstCells, sizeOf, typeInfo, hq, hi, hm, ← hn, hl, hst]
def Cp : List Value → Nat → List Value → List Value
 | xs, _, [] => xs
 | xs, j, v :: r => Cp (xs.set j v) (j + 1) r
theorem CT : ∀ (vs xs : List Value) (j : Nat), (Cp xs j vs).length = xs.length
 | [], _, _ => rfl
 | v :: r, xs, j => by rw [Cp, CT r, List.length_set]
theorem Dn : ∀ (vs xs : List Value) (j : Nat), j + vs.length ≤ xs.length → Cp xs j vs = xs.take j ++ vs ++ xs.drop (j + vs.length)
 | [], xs, j, h => by simp [Cp]
 | v :: r, xs, j, h => by
   have hj : j < xs.length := by simp at h; omega
   rw [Cp, Dn r _ _ (by rw [List.length_set]; simp at h; omega)]
   have e1 : (xs.set j v).take (j + 1) = xs.take j ++ [v] := by
    have e0 : (xs.set j v).take j = xs.take j := by rw [List.take_set, List.set_eq_of_length_le (by rw [List.length_take]; omega)]
    rw [List.take_succ_eq_append_getElem (by simpa using hj), e0]
    simp
   have e2 : (xs.set j v).drop (j + 1 + r.length) = xs.drop (j + (v :: r).length) := by
    rw [List.drop_set_of_lt (by omega)]
    congr 1
    simp
    omega
   rw [e1, e2]
   simp
theorem DG {B : Nat} {T : TypeId} {sz g n cap : Nat} : ∀ (vs : List Value) (j : Nat) (w : World) (xs : List Value), w.ownsRow B T sz (.slice (some ⟨g, 0, none⟩) n cap) n xs →
   (w.setCells g j vs).ownsRow B T sz (.slice (some ⟨g, 0, none⟩) n cap) n (Cp xs j vs) ∧ w.grownBy (w.setCells g j vs) (some g)
 | [], _, w, xs, h => ⟨h, ⟨rfl, rfl, rfl, Nat.le_refl _, fun _ _ _ => rfl⟩⟩
 | v :: r, j, w, xs, h => by
   have h1 := h.stored j v
   have h2 := DG r (j + 1) _ _ h1.1
   exact ⟨h2.1, ⟨h2.2.os.trans h1.2.os, h2.2.tape.trans h1.2.tape, h2.2.output.trans h1.2.output, Nat.le_trans h1.2.size h2.2.size, fun k hk hne => (h2.2.block k (Nat.lt_of_lt_of_le hk h1.2.size) hne).trans (h1.2.block k hk hne)⟩⟩
theorem Om {w : World} {B : Nat} {T : TypeId} {sz g n cap : Nat} {xs : List Value} (h : w.ownsRow B T sz (.slice (some ⟨g, 0, none⟩) n cap) n xs) (hr : n + 1 ≤ cap) :
   ∃ sp : List Value, sp.length = sz ∧ w.ownsRow B T sz (.slice (some ⟨g, 0, none⟩) (n + 1) cap) (n + 1) (xs ++ sp) := by
 rcases h.2 with ⟨h', _⟩ | ⟨g', cap', cur, h', hb, hg, hnc, hcm, hcs, htake⟩
 · simp at h'
 · simp only [Value.slice.injEq, Option.some.injEq, Addr.mk.injEq, and_true, true_and] at h'
   obtain ⟨rfl, rfl⟩ := h'
   have hle : (n + 1) * sz ≤ cap * sz := Nat.mul_le_mul_right _ hr
   have hsz : (n + 1) * sz = n * sz + sz := Nat.succ_mul n sz
   have hl : cur.toList.length = cap * sz := by simpa using hcs
   refine ⟨(cur.toList.drop (n * sz)).take sz, by rw [List.length_take, List.length_drop, hl]; omega, ?_, Or.inr ⟨g, cap, cur, rfl, hb, hg, hr, hcm, hcs, ?_⟩⟩
   · rw [List.length_append, h.1, List.length_take, List.length_drop, hl]; omega
   · rw [hsz, List.take_add, htake]
theorem GW (xs cs vs : List Value) (sz n i : Nat) (hx : xs.length = (n + 1) * sz) (hc : cs.length = n * sz) (hv : vs.length = sz) (hi : i ≤ n) (ht : xs.take (i * sz) = cs.take (i * sz)) :
   Cp (Cp xs ((i + 1) * sz) (cs.drop (i * sz))) (i * sz) vs = cs.take (i * sz) ++ vs ++ cs.drop (i * sz) ∧ Cp (Cp xs (i * sz) vs) ((i + 1) * sz) (cs.drop (i * sz)) = cs.take (i * sz) ++ vs ++ cs.drop (i * sz) := by
 have h1 : (i + 1) * sz = i * sz + sz := Nat.succ_mul i sz
 have h2 : (n + 1) * sz = n * sz + sz := Nat.succ_mul n sz
 have h3 : i * sz ≤ n * sz := Nat.mul_le_mul_right _ hi
 have hd : (cs.drop (i * sz)).length = n * sz - i * sz := by rw [List.length_drop, hc]
 generalize i * sz = a at *
 generalize n * sz = b at *
 rw [h1]
 constructor
 · rw [Dn _ _ _ (by rw [CT]; omega), Dn _ _ _ (by omega)]
   have e1 : (xs.take (a + sz) ++ cs.drop a ++ xs.drop (a + sz + (cs.drop a).length)).take a = cs.take a := by
    rw [List.append_assoc, List.take_append_of_le_length (by rw [List.length_take]; omega), List.take_take, Nat.min_eq_left (by omega), ht]
   have e2 : (xs.take (a + sz) ++ cs.drop a ++ xs.drop (a + sz + (cs.drop a).length)).drop (a + vs.length) = cs.drop a := by
    have l1 : (xs.take (a + sz)).length = a + sz := by rw [List.length_take]; omega
    have l2 : xs.drop (a + sz + (cs.drop a).length) = [] := List.drop_of_length_le (by omega)
    rw [l2, List.append_nil, hv]
    have := List.drop_left (l₁ := xs.take (a + sz)) (l₂ := cs.drop a)
    rwa [l1] at this
   rw [e1, e2]
 · rw [Dn _ _ _ (by rw [CT]; omega), Dn _ _ _ (by omega)]
   have e1 : (xs.take a ++ vs ++ xs.drop (a + vs.length)).take (a + sz) = cs.take a ++ vs := by
    have l1 : (xs.take a ++ vs).length = a + sz := by rw [List.length_append, List.length_take]; omega
    have := List.take_left (l₁ := xs.take a ++ vs) (l₂ := xs.drop (a + vs.length))
    rw [l1] at this
    rw [this, ht]
   have e2 : (xs.take a ++ vs ++ xs.drop (a + vs.length)).drop (a + sz + (cs.drop a).length) = [] := List.drop_of_length_le (by
    rw [List.length_append, List.length_append, List.length_take, List.length_drop]; omega)
   rw [e1, e2, List.append_nil]
/- slices.Insert at fields: its three roads (printed by genins.py; the walks turned from the shelf's worked ones at strings). -/
open Go.RowKit Go.Lib
def InsPost (w : World) (B : Nat) (old : Value) (n i : Nat) (cs vs : List Value) (e : Ending) (w' : World) : Prop :=
 ∃ g c', e = .returned (.slice (some ⟨g, 0, none⟩) (n + 1) c') ∧ w'.ownsRow B 53 7 (.slice (some ⟨g, 0, none⟩) (n + 1) c') (n + 1) (cs.take (i * 7) ++ vs ++ cs.drop (i * 7)) ∧ w.grownBy w' old.ownBlock ∧ (old.ownBlock = some g ∨ w.heap.size ≤ g)
theorem SQ (w : World) : (Go.sizeOf 53).run Tryz.prog w = .ok 7 w := by
 obtain ⟨i0, hi0, hz0, hz1, hz2⟩ := info_parts Tryz.infoF
 simp [Go.sizeOf, typeInfo, hi0, hz1]
theorem InsPost.drew {w w' : World} {B : Nat} {old : Value} {n i : Nat} {cs vs : List Value} {e : Ending} (h : InsPost w B old n i cs vs e w') : InsPost w B old n i cs vs e w'.drew := by
 obtain ⟨g, c', h1, h2, h3, h4⟩ := h
 exact ⟨g, c', h1, h2, ⟨h3.os, h3.tape, h3.output, h3.size, h3.block⟩, h4⟩
theorem Ka (cs : Array Value) (k : Nat) : (Builtin.zeroCells cs k).size = k * cs.size := by
 simp [Builtin.zeroCells]
set_option maxHeartbeats 4000000
set_option maxRecDepth 100000
theorem MK (A : Option Addr) (n c vb B : Nat) (cs vs : List Value) (w : World) (hO : w.ownsRow B 53 7 (.slice A n c) n cs) (hn : n ≤ 1000) (hB : B ≤ w.heap.size)
   (hvl : vs.length = 7) (hvs : ∀ j u, vs[j]? = some u → w.cell? ((⟨vb, 0, none⟩ : Addr).add j) = some u) (h1 : ∀ u ∈ vs, u.oneCell' = true) :
   Calls Tryz.prog 212 #[.slice A n c, .int .i64 n, .slice (some ⟨vb, 0, none⟩) 1 1] w (InsPost w B (.slice A n c) n n cs vs) := by
 have hfull : cs.take (n * 7) ++ vs ++ cs.drop (n * 7) = cs ++ vs := by
   rw [List.take_of_length_le (by rw [hO.1]; exact Nat.le_refl _), List.drop_of_length_le (by rw [hO.1]; exact Nat.le_refl _), List.append_nil]
 have HFU := Lib.hid hfull
 have HO := Lib.hid hO
 have HV := Lib.hid hvs
 have H1 := Lib.hid h1
 have E1 : Hid (n + 1 ≤ maxLen) := Lib.hid (by unfold maxLen; omega)
 have E2 : Hid ((n + 1) * 96 ≤ 140737488355328) := Lib.hid (by omega)
 have HL := Lib.hid hvl
 have HBB := Lib.hid hB
 obtain ⟨i0, hi0, hz00, hz1, hz2⟩ := info_parts Tryz.infoF
 have hnc : n ≤ c := by
   rcases hO.2 with ⟨h, h0⟩ | ⟨g, cap, cur, h, _, _, h2, _⟩
   · cases h; omega
   · cases h; exact h2
 have hA : A = none ∨ ∃ g, A = some ⟨g, 0, none⟩ := by
   rcases hO.2 with ⟨h, h0⟩ | ⟨g, cap, cur, h, _⟩
   · cases h; exact Or.inl rfl
   · cases h; exact Or.inr ⟨g, rfl⟩
 clear hfull hO hvs h1 hvl hB
 rcases hA with rfl | ⟨g, rfl⟩
 · skip
   have hc0 : n = 0 ∧ c = 0 := by
     rcases HO.out.2 with ⟨h, h0⟩ | ⟨g, cap, cur, h, _⟩
     · cases h; exact ⟨h0, rfl⟩
     · cases h
   obtain ⟨rfl, rfl⟩ := hc0
   go_enter Tryz.func212, Tryz.ntmps212
   go_wp2_with (at_builtin; go_loud (refine wpList_append_lies _ rfl _ _ 25 rfl B 53 i0 (.agg #[.string ⟨#[]⟩, .int .u8 0, .bool false, .int .i64 0, .string ⟨#[]⟩, .slice none 0 0, .slice none 0 0]) 7 96 Tryz.underlying25 hi0 hz00 hz1 hz2 rfl (by decide) (.slice none 0 0) 0 cs (by rfl) HO.out ⟨vb, 0, none⟩ 1 1 vs (by rfl) HL.out HV.out H1.out (by decide) E1.out E2.out HBB.out w.heap.size rfl ?_); intro g' cap' w2 hown hgrow hat2 hlt2; have HP : Hid (InsPost w B (.slice none 0 0) 0 0 cs vs (.returned (.slice (some ⟨g', 0, none⟩) (0 + 1) cap')) w2) := Lib.hid ⟨g', cap', rfl, by rw [HFU.out]; exact hown, hgrow, hat2.imp id (fun h => by omega)⟩; clear hown hgrow hat2 hlt2)
   all_goals (go_ret; exact HP.out)
 · skip
   go_enter Tryz.func212, Tryz.ntmps212
   go_wp2_with (at_builtin; go_loud (refine wpList_append_lies _ rfl _ _ 25 rfl B 53 i0 (.agg #[.string ⟨#[]⟩, .int .u8 0, .bool false, .int .i64 0, .string ⟨#[]⟩, .slice none 0 0, .slice none 0 0]) 7 96 Tryz.underlying25 hi0 hz00 hz1 hz2 rfl (by decide) (.slice (some ⟨g, 0, none⟩) n c) n cs (by rfl) HO.out ⟨vb, 0, none⟩ 1 1 vs (by rfl) HL.out HV.out H1.out (by decide) E1.out E2.out HBB.out w.heap.size rfl ?_); intro g' cap' w2 hown hgrow hat2 hlt2; have HP : Hid (InsPost w B (.slice (some ⟨g, 0, none⟩) n c) n n cs vs (.returned (.slice (some ⟨g', 0, none⟩) (n + 1) cap')) w2) := Lib.hid ⟨g', cap', rfl, by rw [HFU.out]; exact hown, hgrow, hat2.imp id (fun h => by omega)⟩; clear hown hgrow hat2 hlt2)
   all_goals (go_ret; exact HP.out)
theorem KJ (g n c i vb B : Nat) (cs vs : List Value) (w : World) (hO : w.ownsRow B 53 7 (.slice (some ⟨g, 0, none⟩) n c) n cs) (hi : i < n) (hroom : n + 1 ≤ c) (hn : n ≤ 1000)
  (hvl : vs.length = 7) (hvb : w.heap[vb]? = some (.cells vs.toArray 53 (0, 0))) (hne : vb ≠ g) (h1 : ∀ u ∈ vs, u.oneCell' = true) (h1c : ∀ u ∈ cs, u.oneCell' = true) :
  Calls Tryz.prog 212 #[.slice (some ⟨g, 0, none⟩) n c, .int .i64 i, .slice (some ⟨vb, 0, none⟩) 1 1] w (InsPost w B (.slice (some ⟨g, 0, none⟩) n c) n i cs vs) := by
 obtain ⟨sp, hsp, hO1⟩ := Om hO hroom
 have hcl : cs.length = n * 7 := hO.1
 have hdl : (cs.drop (i * 7)).length = (n - i) * 7 := by rw [List.length_drop, hcl]; omega
 have hc63 : c ≤ 9223372036854775807 := by
  rcases hO.2 with ⟨h, h0⟩ | ⟨g', cap, cur, h, _, _, _, h2, _⟩
  · cases h
  · cases h; unfold maxLen at h2; omega
 have hsz : (Tryz.prog.info? 53).map (·.size) = some 7 := by
  obtain ⟨i0, hi0, h0, h1, h2⟩ := info_parts Tryz.infoF
  rw [hi0]; simp [h1]
 have hblk : ∃ cur : Array Value, w.heap[g]? = some (.cells cur 53 (0, 0)) ∧ cur.size = c * 7 := by
  rcases hO.2 with ⟨h, h0⟩ | ⟨g', cap, cur, h, _, hg, _, _, hs, _⟩
  · cases h
  · cases h; exact ⟨cur, hg, hs⟩
 obtain ⟨cur, hg, hcs⟩ := hblk
 have hov : ∀ lb cb, (callFunc 213 #[.slice (some ⟨vb, 0, none⟩) 1 1, .slice (some ⟨g, (i + 1) * 7, none⟩) lb cb]).run Tryz.prog w = .ok (.value (.bool false)) w := fun lb cb => by
  rw [run_callFunc_extern Tryz.func213 (by kernel_rfl) (by kernel_rfl) (by kernel_rfl) (e := Extern.SlicesOverlaps.overlaps #[25, 25] #[4]) (by kernel_rfl),
    Lib.run_overlaps_apart w 25 4 53 Tryz.underlying25 7 SQ ⟨vb, 0, none⟩ ⟨g, (i + 1) * 7, none⟩ 1 1 lb cb hne 53 53 vs.toArray.size cur.size (by simp [World.shape?, hvb]) (by simp [World.shape?, hg]) (by rw [hcs]; omega) (by simp [World.frozen?, hvb]) (by simp [World.frozen?, hvb])]
  rfl
 have hx1 : (cs ++ sp).length = (n + 1) * 7 := by rw [List.length_append, hcl, hsp]; omega
 have hcell : ∀ j, j < (n + 1) * 7 → w.cell? ⟨g, j, none⟩ = (cs ++ sp)[j]? := fun j hj => hO1.cellAt j hj
 have hcp1 : ∀ ty dc sc, (Builtin.copy_ #[25, 25] ty #[.slice (some ⟨g, (i + 1) * 7, none⟩) (n - i) dc, .slice (some ⟨g, i * 7, none⟩) (n + 1 - i) sc]).run Tryz.prog w.drew = .ok (goInt ((n - i : Nat) : Int)) (w.drew.setCells g ((i + 1) * 7) (cs.drop (i * 7))) := fun ty dc sc =>
  CM w.drew _ _ ty 53 7 g ((i + 1) * 7) (n - i) dc ⟨g, i * 7, none⟩ (n + 1 - i) sc (n - i) (cs.drop (i * 7)) Tryz.underlying25 hsz (by simp only [Nat.min_def]; split <;> omega) hdl
    (fun j v hj => by
     have hj1 : j < (cs.drop (i * 7)).length := by
      rcases Nat.lt_or_ge j (cs.drop (i * 7)).length with h | h
      · exact h
      · rw [List.getElem?_eq_none h] at hj; cases hj
     rw [AS]
     refine (hcell _ (by omega)).trans ?_
     rw [List.getElem?_append_left (by omega)]
     rwa [List.getElem?_drop] at hj)
    (fun j hj => by
     show (w.cell? _).isSome = true
     rw [hcell _ (by omega), List.getElem?_eq_getElem (by omega)]; rfl)
    (fun j hj => hO1.frozenAt _) (fun v hv => h1c v (List.mem_of_mem_drop hv))
 have hA1 := DG (cs.drop (i * 7)) ((i + 1) * 7) w.drew (cs ++ sp) hO1
 obtain ⟨W1, hW1⟩ : ∃ W1, W1 = w.drew.setCells g ((i + 1) * 7) (cs.drop (i * 7)) := ⟨_, rfl⟩
 rw [← hW1] at hcp1 hA1
 have hvb1 : W1.heap[vb]? = some (.cells vs.toArray 53 (0, 0)) := by
  rw [hW1]
  exact B7 hne _ _ _ hvb
 have hxl : (Cp (cs ++ sp) ((i + 1) * 7) (cs.drop (i * 7))).length = (n + 1) * 7 := by rw [CT, hx1]
 have hcp2 : ∀ (W : World), (∀ x, W.cell? x = W1.cell? x) → (∀ x, W.frozen? x = W1.frozen? x) → ∀ ty dc, (Builtin.copy_ #[25, 25] ty #[.slice (some ⟨g, i * 7, none⟩) (n + 1 - i) dc, .slice (some ⟨vb, 0, none⟩) 1 1]).run Tryz.prog W = .ok (goInt 1) (W.setCells g (i * 7) vs) := fun W hWc hWf ty dc =>
  CM W _ _ ty 53 7 g (i * 7) (n + 1 - i) dc ⟨vb, 0, none⟩ 1 1 1 vs Tryz.underlying25 hsz (by simp only [Nat.min_def]; split <;> omega) hvl
    (fun j v hj => by
     rw [AS, hWc, Nat.zero_add]
     simp [World.cell?, hvb1, hj])
    (fun j hj => by
     rw [hWc, hA1.1.cellAt _ (by omega), List.getElem?_eq_getElem (by omega)]; rfl)
    (fun j hj => by rw [hWf]; exact hA1.1.frozenAt _) h1
 have hA2 := DG vs (i * 7) _ _ hA1.1
 have hins := (GW (cs ++ sp) cs vs 7 n i hx1 hcl hvl (by omega) (by rw [List.take_append_of_le_length (by omega)])).1
 rw [hins] at hA2
 have HP : Hid (InsPost w B (.slice (some ⟨g, 0, none⟩) n c) n i cs vs (.returned (.slice (some ⟨g, 0, none⟩) (n + 1) c)) (W1.setCells g (i * 7) vs)) := Lib.hid ⟨g, c, rfl, hA2.1, ⟨hA2.2.os.trans hA1.2.os, hA2.2.tape.trans hA1.2.tape, hA2.2.output.trans hA1.2.output, Nat.le_trans hA1.2.size hA2.2.size, fun k hk hke => (hA2.2.block k (Nat.lt_of_lt_of_le hk hA1.2.size) hke).trans (hA1.2.block k hk hke)⟩, Or.inl rfl⟩
 have hz2 : ¬ ((i : Int) = (n : Int)) := by omega
 have mixed : Tryz.prog.follows Departure.mixedOrders = true := by kernel_rfl
 have hw1 : IntKind.i64.wrap ((i : Int) + 1) = (i : Int) + 1 := by rw [IntKind.wrap_i64]; omega
 have hb1 : (0 : Int) ≤ (i : Int) + 1 := by omega
 have hin : i ≤ n := by omega
 have htn : ((i : Int) + 1).toNat = i + 1 := by omega
 have hb2 : ¬ (c = i + 1) := by omega
 have hb3 : (i : Int) ≤ (n : Int) + 1 := by omega
 have hb4 : ¬ (c = i) := by omega
 clear hO hO1 hcl hdl hsz hg hcs hx1 hcell hA1 hA2 hins hvb hvb1 hxl h1 h1c hsp hvl
 go_enter Tryz.func212, Tryz.ntmps212
 go_wp2_with (simp only [hov])
 go_region_law_o (refine step_copy_runI rfl _ _ 25 25 rfl _ _ (by simp [Act.eval, Act.put]) (by simp [Act.eval, Act.put]) (hcp1 _ _ _) ?_)
 go_wp2_with (at_builtin; refine wpList_copy_runI _ rfl _ _ 25 25 rfl _ _ rfl rfl (hcp2 _ (fun _ => rfl) (fun _ => rfl) _ _) ?_)
 go_ret
 rw [← hW1]
 exact HP.out
theorem L9 (g n c i vb B : Nat) (cs vs : List Value) (w : World) (hO : w.ownsRow B 53 7 (.slice (some ⟨g, 0, none⟩) n c) n cs) (hi : i < n) (hroom : c < n + 1) (hn : n ≤ 1000) (hB : B ≤ w.heap.size)
  (hvl : vs.length = 7) (hvb : w.heap[vb]? = some (.cells vs.toArray 53 (0, 0))) (h1 : ∀ u ∈ vs, u.oneCell' = true) (h1c : ∀ u ∈ cs, u.oneCell' = true) :
  Calls Tryz.prog 212 #[.slice (some ⟨g, 0, none⟩) n c, .int .i64 i, .slice (some ⟨vb, 0, none⟩) 1 1] w (InsPost w B (.slice (some ⟨g, 0, none⟩) n c) n i cs vs) := by
 obtain ⟨i0, hi0, hz0, hzs, hzb⟩ := info_parts Tryz.infoF
 have hcl : cs.length = n * 7 := hO.1
 have hdl : (cs.drop (i * 7)).length = (n - i) * 7 := by rw [List.length_drop, hcl]; omega
 have hnc : n = c := by
  rcases hO.2 with ⟨h, h0⟩ | ⟨g', cap, cur, h, _, _, h2, _⟩
  · cases h
  · cases h; omega
 have hgl : g < w.heap.size := (hO.lt g rfl).2
 have hvl2 : vb < w.heap.size := lt_of_block hvb
 have hsz : (Tryz.prog.info? 53).map (·.size) = some 7 := by rw [hi0]; simp [hzs]
 have hkk : (n : Int) + 1 - (i : Int) = ((n + 1 - i : Nat) : Int) := by omega
 have hik : i + (n + 1 - i) = n + 1 := by omega
 have hcell : ∀ j, j < n * 7 → w.cell? ⟨g, j, none⟩ = cs[j]? := fun j hj => hO.cellAt j hj
 have hold : (Builtin.firstCells i0.size i (.slice (some ⟨g, 0, none⟩) i c)).run Tryz.prog w.drew = .ok (cs.take (i * 7)).toArray w.drew := by
  rw [hzs]
  exact run_firstCells_some w.drew 7 i ⟨g, 0, none⟩ i c (cs.take (i * 7)) (by rw [List.length_take]; omega) (fun j v hj => by
    rw [AS, Nat.zero_add]
    rw [List.getElem?_take] at hj
    split at hj
    · exact (hcell j (by omega)).trans hj
    · cases hj)
 have hrz : ∀ ty, (Builtin.append_ #[25, 3] ty #[.slice (some ⟨g, 0, none⟩) i c, .int .i64 ((n : Int) + 1 - (i : Int))]).run Tryz.prog w =
    .ok (.slice (some ⟨w.heap.size, 0, none⟩) (n + 1) (grownCap w (n + 1) c 53)) (w.drew.alloc (.cells ((cs.take (i * 7)).toArray ++ Builtin.zeroCells (Value.cells (.agg #[.string ⟨#[]⟩, .int .u8 0, .bool false, .int .i64 0, .string ⟨#[]⟩, .slice none 0 0, .slice none 0 0])) (n + 1 - i) ++ Builtin.zeroCells (Value.cells (.agg #[.string ⟨#[]⟩, .int .u8 0, .bool false, .int .i64 0, .string ⟨#[]⟩, .slice none 0 0, .slice none 0 0])) (grownCap w (n + 1) c 53 - (n + 1))) 53)) := fun ty => by
  have h := Lib.run_append_grow_zeros w 25 3 ty 53 i0 _ .i64 .i64 Tryz.underlying25 Tryz.underlying3 hi0 hz0 (some ⟨g, 0, none⟩) i c (cs.take (i * 7)) hold (n + 1 - i) (by omega) (by omega) (by omega) (by omega) (by rw [hzb]; omega) (by rw [hzb, hik]; exact growslice_fits hroom (by omega))
  rw [hik] at h
  rw [hkk]
  exact h
 obtain ⟨G, hG⟩ : ∃ G, G = grownCap w (n + 1) c 53 := ⟨_, rfl⟩
 have hGn : n + 1 ≤ G := by rw [hG]; exact grownCap_ge w _ _ _
 have hG63 : G ≤ maxLen := by rw [hG]; exact grownCap_le_maxLen w (n + 1) c 53 (by unfold maxLen; omega)
 obtain ⟨ROW, hROW⟩ : ∃ ROW : Array Value, ROW = (cs.take (i * 7)).toArray ++ Builtin.zeroCells (Value.cells (.agg #[.string ⟨#[]⟩, .int .u8 0, .bool false, .int .i64 0, .string ⟨#[]⟩, .slice none 0 0, .slice none 0 0])) (n + 1 - i) ++ Builtin.zeroCells (Value.cells (.agg #[.string ⟨#[]⟩, .int .u8 0, .bool false, .int .i64 0, .string ⟨#[]⟩, .slice none 0 0, .slice none 0 0])) (G - (n + 1)) := ⟨_, rfl⟩
 rw [← hG] at hrz
 rw [← hROW] at hrz
 have hzl : (Value.cells (.agg #[.string ⟨#[]⟩, .int .u8 0, .bool false, .int .i64 0, .string ⟨#[]⟩, .slice none 0 0, .slice none 0 0])).size = 7 := by rfl
 have hRs : ROW.size = G * 7 := by
  rw [hROW]
  simp only [Array.size_append, Ka, hzl]
  rw [List.size_toArray, List.length_take, hcl]
  omega
 have hRt : (ROW.toList.take ((n + 1) * 7)).take (i * 7) = cs.take (i * 7) := by
  rw [List.take_take, Nat.min_eq_left (by omega), hROW]
  simp only [Array.toList_append, List.append_assoc]
  rw [List.take_append_of_le_length (by rw [List.length_take]; omega), List.take_take, Nat.min_self]
 have hO1 : (w.drew.alloc (.cells ROW 53)).ownsRow B 53 7 (.slice (some ⟨w.heap.size, 0, none⟩) (n + 1) G) (n + 1) (ROW.toList.take ((n + 1) * 7)) :=
  ⟨by rw [List.length_take, Array.length_toList, hRs]; omega, Or.inr ⟨w.heap.size, G, ROW, rfl, hB, Ab w.drew _, hGn, hG63, hRs, rfl⟩⟩
 have hxl : (ROW.toList.take ((n + 1) * 7)).length = (n + 1) * 7 := hO1.1
 generalize ROW.toList.take ((n + 1) * 7) = xs at *
 have hgr : w.grownBy (w.drew.alloc (.cells ROW 53)) (some g) := by
  have h := World.grownBy_alloc w.drew (.cells ROW 53) (some g)
  exact ⟨h.os, h.tape, h.output, h.size, h.block⟩
 obtain ⟨W1, hW1⟩ : ∃ W1, W1 = w.drew.alloc (.cells ROW 53) := ⟨_, rfl⟩
 have hW1' : w.alloc (.cells ROW 53) = W1 ∨ True := Or.inr trivial
 have hOg : ∀ j v, j < n * 7 → cs[j]? = some v → W1.cell? ⟨g, j, none⟩ = some v := fun j v hj h => by
  rw [hW1, World.cell?_alloc_past (w := w.drew) _ g j hgl]
  exact (hcell j hj).trans h
 have hvb1 : W1.heap[vb]? = some (.cells vs.toArray 53 (0, 0)) := by rw [hW1]; exact Af hvb
 rw [← hW1] at hrz hO1 hgr
 have hcpA : ∀ (W : World), (∀ x, W.cell? x = W1.cell? x) → (∀ x, W.frozen? x = W1.frozen? x) → ∀ ty dc, (Builtin.copy_ #[25, 25] ty #[.slice (some ⟨w.heap.size, i * 7, none⟩) (n + 1 - i) dc, .slice (some ⟨vb, 0, none⟩) 1 1]).run Tryz.prog W = .ok (goInt 1) (W.setCells w.heap.size (i * 7) vs) := fun W hWc hWf ty dc =>
  CM W _ _ ty 53 7 w.heap.size (i * 7) (n + 1 - i) dc ⟨vb, 0, none⟩ 1 1 1 vs Tryz.underlying25 hsz (by simp only [Nat.min_def]; split <;> omega) hvl
    (fun j v hj => by
      rw [AS, hWc, Nat.zero_add]
      simp [World.cell?, hvb1, hj])
    (fun j hj => by
      rw [hWc, hO1.cellAt _ (by omega), List.getElem?_eq_getElem (by omega)]; rfl)
    (fun j hj => by rw [hWf]; exact hO1.frozenAt _) h1
 have hA1 := DG vs (i * 7) _ _ hO1
 have hxl1 : (Cp xs (i * 7) vs).length = (n + 1) * 7 := by rw [CT, hxl]
 have hgN : g ≠ w.heap.size := by omega
 have hcpB : ∀ (W : World), (∀ x, W.cell? x = (W1.setCells w.heap.size (i * 7) vs).cell? x) → (∀ x, W.frozen? x = (W1.setCells w.heap.size (i * 7) vs).frozen? x) → ∀ ty dc sc, (Builtin.copy_ #[25, 25] ty #[.slice (some ⟨w.heap.size, (i + 1) * 7, none⟩) (n - i) dc, .slice (some ⟨g, i * 7, none⟩) (n - i) sc]).run Tryz.prog W = .ok (goInt ((n - i : Nat) : Int)) (W.setCells w.heap.size ((i + 1) * 7) (cs.drop (i * 7))) := fun W hWc hWf ty dc sc =>
  CM W _ _ ty 53 7 w.heap.size ((i + 1) * 7) (n - i) dc ⟨g, i * 7, none⟩ (n - i) sc (n - i) (cs.drop (i * 7)) Tryz.underlying25 hsz (by simp only [Nat.min_def]; split <;> omega) hdl
    (fun j v hj => by
      have hj1 : j < (cs.drop (i * 7)).length := by
       rcases Nat.lt_or_ge j (cs.drop (i * 7)).length with h | h
       · exact h
       · rw [List.getElem?_eq_none h] at hj; cases hj
      rw [AS, hWc, World.cell?_setCells_out _ _ _ _ _ (fun h _ => absurd h hgN)]
      exact hOg _ v (by omega) (by rwa [List.getElem?_drop] at hj))
    (fun j hj => by
      rw [hWc, hA1.1.cellAt _ (by omega), List.getElem?_eq_getElem (by omega)]; rfl)
    (fun j hj => by rw [hWf]; exact hA1.1.frozenAt _) (fun v hv => h1c v (List.mem_of_mem_drop hv))
 have hA2 := DG (cs.drop (i * 7)) ((i + 1) * 7) _ _ hA1.1
 have hins := (GW xs cs vs 7 n i hxl hcl hvl (by omega) hRt).2
 rw [hins] at hA2
 have hgN2 : some w.heap.size ≠ (some g : Option Nat) := fun e => by cases e; omega
 have hne2 : ∀ k, k < w.heap.size → some k ≠ some w.heap.size := fun k hk e => by cases e; omega
 have HP : Hid (InsPost w B (.slice (some ⟨g, 0, none⟩) n c) n i cs vs (.returned (.slice (some ⟨w.heap.size, 0, none⟩) (n + 1) G)) ((W1.setCells w.heap.size (i * 7) vs).setCells w.heap.size ((i + 1) * 7) (cs.drop (i * 7)))) :=
  Lib.hid ⟨w.heap.size, G, rfl, hA2.1, ⟨hA2.2.os.trans (hA1.2.os.trans hgr.os), hA2.2.tape.trans (hA1.2.tape.trans hgr.tape), hA2.2.output.trans (hA1.2.output.trans hgr.output), Nat.le_trans hgr.size (Nat.le_trans hA1.2.size hA2.2.size), fun k hk hke =>
    (hA2.2.block k (Nat.lt_of_lt_of_le hk (Nat.le_trans hgr.size hA1.2.size)) (hne2 k hk)).trans ((hA1.2.block k (Nat.lt_of_lt_of_le hk hgr.size) (hne2 k hk)).trans (hgr.block k hk hke))⟩, Or.inr (Nat.le_refl _)⟩
 have hci : ¬ (c = i) := by omega
 have hic : (i : Int) ≤ (c : Int) := by omega
 have hic2 : i ≤ c := by omega
 clear hnc
 have hz2 : ¬ ((i : Int) = (n : Int)) := by omega
 have hz3 : (c : Int) < (n : Int) + 1 := by omega
 have hG64 : G ≤ 9223372036854775807 := by unfold maxLen at hG63; omega
 have mixed : Tryz.prog.follows Departure.mixedOrders = true := by kernel_rfl
 have hGi : ¬ (G = i) := by omega
 have hGim : ¬ (G = i + 1) := by omega
 have hw1 : IntKind.i64.wrap ((i : Int) + 1) = (i : Int) + 1 := by rw [IntKind.wrap_i64]; omega
 have hb1 : (0 : Int) ≤ (i : Int) + 1 := by omega
 have hin : i ≤ n := by omega
 have htn : ((i : Int) + 1).toNat = i + 1 := by omega
 have hb3 : (i : Int) ≤ (n : Int) := by omega
 subst hW1
 have hE1 : ∀ x, ((w.alloc (.cells ROW 53)).drew).cell? x = (w.drew.alloc (.cells ROW 53)).cell? x := fun x => rfl
 have hE2 : ∀ x, ((w.alloc (.cells ROW 53)).drew).frozen? x = (w.drew.alloc (.cells ROW 53)).frozen? x := fun x => rfl
 have hF1 : ∀ x, (((w.alloc (.cells ROW 53)).drew.setCells w.heap.size (i * 7) vs).drew).cell? x = ((w.drew.alloc (.cells ROW 53)).setCells w.heap.size (i * 7) vs).cell? x := fun x => rfl
 have hF2 : ∀ x, (((w.alloc (.cells ROW 53)).drew.setCells w.heap.size (i * 7) vs).drew).frozen? x = ((w.drew.alloc (.cells ROW 53)).setCells w.heap.size (i * 7) vs).frozen? x := fun x => rfl
 have hdd : (((w.alloc (.cells ROW 53)).drew.setCells w.heap.size (i * 7) vs).drew).setCells w.heap.size ((i + 1) * 7) (cs.drop (i * 7)) = (((w.drew.alloc (.cells ROW 53)).setCells w.heap.size (i * 7) vs).setCells w.heap.size ((i + 1) * 7) (cs.drop (i * 7))).drew ∨ True := Or.inr trivial
 clear hkk hik hold hROW hG hO hO1 hcl hdl hsz hcell hA1 hA2 hins hvb hvb1 hxl hxl1 h1 h1c hvl hRs hRt hgr hOg hG63 hW1' hdd hgN hgN2 hne2 hgl hvl2
 go_enter Tryz.func212, Tryz.ntmps212
 go_wp2_with (first
  | (at_builtin; refine Lib.wpList_append_run _ rfl _ _ _ _ rfl _ _ rfl rfl _ _ (hrz _) ?_)
  | (at_builtin; refine wpList_copy_runI _ rfl _ _ 25 25 rfl _ _ rfl rfl (hcpA _ hE1 hE2 _ _) ?_)
  | (at_builtin; refine wpList_copy_runI _ rfl _ _ 25 25 rfl _ _ rfl rfl (hcpB _ (fun _ => rfl) (fun _ => rfl) _ _ _) ?_))
 go_region_law_o (refine step_copy_runI rfl _ _ 25 25 rfl (.slice (some ⟨w.heap.size, (i + 1) * 7, none⟩) (n - i) (G - (i + 1))) (.slice (some ⟨g, i * 7, none⟩) (n - i) (c - i)) (by simp [Act.eval, Act.put]) (by simp [Act.eval, Act.put]) (hcpB _ hF1 hF2 3 (G - (i + 1)) (c - i)) ?_)
 go_wp2
 go_ret
 have hp := HP.out.drew
 rw [Go.Proofs.drew_setCells] at hp
 exact hp
/- Fields as cells; one more among them (plain); where it goes. -/
def Flds (w : World) (Q : Nat → Prop) : FL → List Value → Prop
 | .nil, cs => cs = []
 | .cons s t r, cs => s.size ≤ LIM ∧ ∃ v0 v1 v2 v3 v4 v5 rest, cs = [.string s, v0, v1, v2, v3, v4, v5] ++ rest ∧ RQ w Q t [v0, v1, v2, v3, v4, v5] ∧ Flds w Q r rest
theorem Flds.keep {w w' : World} {Q Q' : Nat → Prop} (hs : G7 Q w w') (hq : ∀ b, Q b → Q' b) : ∀ (f : FL) (cs : List Value), Flds w Q f cs → Flds w' Q' f cs
 | .nil, cs, h => h
 | .cons s t r, cs, ⟨hz, v0, v1, v2, v3, v4, v5, rest, e, hv, hr⟩ => ⟨hz, v0, v1, v2, v3, v4, v5, rest, e, RQ.keep hs hq t _ hv, Flds.keep hs hq r rest hr⟩
theorem Flds.length {w : World} {Q : Nat → Prop} : ∀ (f : FL) (cs : List Value), Flds w Q f cs → cs.length = f.len * 7
 | .nil, cs, h => by have h : cs = [] := h; subst h; rfl
 | .cons s t r, cs, ⟨hz, v0, v1, v2, v3, v4, v5, rest, e, hx, hr⟩ => by
   have := Flds.length r rest hr
   rw [e]
   simp [FL.len]
   omega
theorem Flds.one {w : World} {Q : Nat → Prop} : ∀ (f : FL) (cs : List Value), Flds w Q f cs → ∀ u ∈ cs, u.oneCell' = true
 | .nil, cs, h, u, hu => by have h : cs = [] := h; subst h; cases hu
 | .cons s t r, cs, ⟨hz, v0, v1, v2, v3, v4, v5, rest, e, hx, hr⟩, u, hu => by
   have ih := Flds.one r rest hr u
   cases t with
   | mk k b n s' l f =>
     unfold RQ at hx
     obtain ⟨a1, c1, a2, c2, e2, _⟩ := hx
     simp only [List.cons.injEq, and_true] at e2
     obtain ⟨rfl, rfl, rfl, rfl, rfl, rfl⟩ := e2
     subst e
     simp only [List.cons_append, List.nil_append, List.mem_cons] at hu
     rcases hu with rfl | rfl | rfl | rfl | rfl | rfl | rfl | hu
     all_goals first | rfl | exact ih hu
theorem Flds.rows {w : World} {Q : Nat → Prop} {g : Nat} : ∀ (f : FL) (cs : List Value) (o : Nat), Flds w Q f cs → (∀ j, j < cs.length → w.cell? ⟨g, o + j, none⟩ = cs[j]?) → RQF w Q f g o
 | .nil, cs, o, h, hc => by unfold RQF; trivial
 | .cons s t r, cs, o, ⟨hz, v0, v1, v2, v3, v4, v5, rest, e, hx, hr⟩, hc => by
   subst e
   unfold RQF
   have hc' : ∀ j, j < 7 + rest.length → w.cell? ⟨g, o + j, none⟩ = ([.string s, v0, v1, v2, v3, v4, v5] ++ rest)[j]? := fun j hj => hc j (by simp; omega)
   refine ⟨⟨?_, hz, v0, v1, v2, v3, v4, v5, ?_, ?_, ?_, ?_, ?_, ?_, hx⟩, Flds.rows r rest (o + 7) hr (fun j hj => ?_)⟩
   · exact hc' 0 (by omega)
   · exact hc' 1 (by omega)
   · exact hc' 2 (by omega)
   · exact hc' 3 (by omega)
   · exact hc' 4 (by omega)
   · exact hc' 5 (by omega)
   · exact hc' 6 (by omega)
   · have h := hc' (7 + j) (by omega)
     rw [← Nat.add_assoc, List.getElem?_append_right (by simp), show 7 + j - [Value.string s, v0, v1, v2, v3, v4, v5].length = j by simp] at h
     exact h
theorem Flds.of {w : World} {Q : Nat → Prop} {g : Nat} : ∀ (f : FL) (cs : List Value) (o : Nat), RQF w Q f g o → cs.length = f.len * 7 → (∀ j, j < cs.length → w.cell? ⟨g, o + j, none⟩ = cs[j]?) → Flds w Q f cs
 | .nil, cs, o, h, hl, hc => List.length_eq_zero_iff.1 (by simpa [FL.len] using hl)
 | .cons s t r, cs, o, h, hl, hc => by
   unfold RQF at h
   obtain ⟨⟨es, hz, v0, v1, v2, v3, v4, v5, e0, e1, e2, e3, e4, e5, hv⟩, hr⟩ := h
   have hl' : cs.length = 7 + r.len * 7 := by rw [hl]; simp [FL.len]; omega
   have hc0 := fun j (hj : j < 7) => hc j (by omega)
   have hd : cs.drop 7 = cs.drop 7 := rfl
   have hcs : cs = [.string s, v0, v1, v2, v3, v4, v5] ++ cs.drop 7 := by
    apply List.ext_getElem?
    intro j
    by_cases hj : j < 7
    · rw [List.getElem?_append_left (by simpa using hj), ← hc0 j hj]
      obtain rfl | rfl | rfl | rfl | rfl | rfl | rfl : j = 0 ∨ j = 1 ∨ j = 2 ∨ j = 3 ∨ j = 4 ∨ j = 5 ∨ j = 6 := by omega
      · exact es
      · exact e0
      · exact e1
      · exact e2
      · exact e3
      · exact e4
      · exact e5
    · rw [List.getElem?_append_right (by simp; omega), List.getElem?_drop]
      congr 1
      simp
      omega
   refine ⟨hz, v0, v1, v2, v3, v4, v5, cs.drop 7, hcs, hv, Flds.of r _ (o + 7) hr (by rw [List.length_drop]; omega) (fun j hj => ?_)⟩
   rw [List.length_drop] at hj
   rw [List.getElem?_drop, Nat.add_assoc]
   exact hc (7 + j) (by omega)
def atG (p : ByteArray) : FL → Nat
 | .nil => 0
 | .cons s t r => if Op.bytesLess p.toList s.toList then 0 else atG p r + 1
def El (p : ByteArray) : FL → Nat → Int
 | .nil, _ => -1
 | .cons s t r, i => if Op.bytesLess p.toList s.toList then i else El p r (i + 1)
theorem Ig (p : ByteArray) : ∀ f : FL, atG p f ≤ f.len
 | .nil => Nat.le_refl _
 | .cons s t r => by
   unfold atG FL.len
   have := Ig p r
   split <;> omega
theorem IX (p : ByteArray) : ∀ (f : FL) (i : Nat), El p f i = if atG p f < f.len then ((i + atG p f : Nat) : Int) else -1
 | .nil, i => rfl
 | .cons s t r, i => by
   unfold El atG
   by_cases h : Op.bytesLess p.toList s.toList = true
   · simp only [if_pos h]
     rw [if_pos (by simp [FL.len])]
     rfl
   · simp only [if_neg h]
     rw [IX p r (i + 1)]
     have := Ig p r
     by_cases h2 : atG p r < r.len
     · rw [if_pos h2, if_pos (by simp [FL.len]; omega)]
       congr 1
       omega
     · rw [if_neg h2, if_neg (by simp [FL.len]; omega)]
theorem NN (p : ByteArray) (f : FL) (i : Nat) (s : ByteArray) (t : VT) (h : f.get? i = some (s, t)) : El p (f.drop i) i = if Op.bytesLess p.toList s.toList then (i : Int) else El p (f.drop (i + 1)) (i + 1) := by
 rw [FL.drop_step f i s t h, El]
theorem Dv (p : ByteArray) (x : VT) : ∀ f : FL, (CP p x f).len = f.len + 1
 | .nil => rfl
 | .cons s t r => by
   unfold CP
   split
   · rfl
   · simp [FL.len, Dv p x r]
theorem Flds.insert {w : World} {Q : Nat → Prop} {p : ByteArray} {x : VT} {u0 u1 u2 u3 u4 u5 : Value} (hp : p.size ≤ LIM) (hx : RQ w Q x [u0, u1, u2, u3, u4, u5]) : ∀ (f : FL) (cs : List Value), Flds w Q f cs →
   Flds w Q (CP p x f) (cs.take (atG p f * 7) ++ [.string p, u0, u1, u2, u3, u4, u5] ++ cs.drop (atG p f * 7))
 | .nil, cs, h => by
   have h : cs = [] := h
   subst h
   exact ⟨hp, u0, u1, u2, u3, u4, u5, [], rfl, hx, rfl⟩
 | .cons s t r, cs, h => by
   unfold CP atG
   by_cases hl : Op.bytesLess p.toList s.toList = true
   · simp only [if_pos hl]
     rw [Nat.zero_mul, List.take_zero, List.drop_zero, List.nil_append]
     exact ⟨hp, u0, u1, u2, u3, u4, u5, cs, rfl, hx, h⟩
   · simp only [if_neg hl]
     obtain ⟨hz, v0, v1, v2, v3, v4, v5, rest, rfl, hv, hr⟩ := h
     have ih := Flds.insert hp hx r rest hr
     refine ⟨hz, v0, v1, v2, v3, v4, v5, _, ?_, hv, ih⟩
     have e1 : (atG p r + 1) * 7 = 7 + atG p r * 7 := by omega
     rw [e1, List.take_add, ← List.drop_drop]
     simp
/- value.Put, a new name: where it goes; the walk. -/
theorem J4 : ∀ a b : List UInt8, (!Op.bytesLess a b && !(a == b)) = Op.bytesLess b a
 | [], [] => rfl
 | [], _ :: _ => rfl
 | _ :: _, [] => rfl
 | a :: x, b :: y => by
   have ih := J4 x y
   unfold Op.bytesLess
   rw [← ih]
   have h := UInt8.lt_iff_toNat_lt (a := a) (b := b)
   have h2 := UInt8.lt_iff_toNat_lt (a := b) (b := a)
   have h3 : a = b ↔ a.toNat = b.toNat := UInt8.toNat_inj.symm
   rcases Nat.lt_trichotomy a.toNat b.toNat with hl | he | hg
   · have d1 : decide (a < b) = true := decide_eq_true (h.2 hl)
     have d2 : decide (b < a) = false := decide_eq_false (fun c => by have := h2.1 c; omega)
     have d3 : (b == a) = false := by rw [beq_eq_false_iff_ne]; intro e; have := h3.1 e.symm; omega
     simp [d1, d2, d3]
   · have e := h3.2 he
     subst e
     simp
   · have d1 : decide (a < b) = false := decide_eq_false (fun c => by have := h.1 c; omega)
     have d2 : decide (b < a) = true := decide_eq_true (h2.2 hg)
     have d3 : (a == b) = false := by rw [beq_eq_false_iff_ne]; intro e; have := h3.1 e; omega
     have d4 : ¬ a = b := fun e => by have := h3.1 e; omega
     simp [d1, d2, d3, d4]
theorem PX (p s : ByteArray) (v0 v1 v2 v3 v4 v5 : Value) (q : Nat) (w : World) (hq : w.cell? ⟨q, 0, none⟩ = some (.string p)) :
  Calls Tryz.prog 211 #[.agg #[.string s, v0, v1, v2, v3, v4, v5], .pointer (some ⟨q, 0, none⟩)] w fun e w' => e = .returned (.bool (Op.bytesLess p.toList s.toList)) ∧ Below w.heap.size w w' := by
 have lq : q < w.heap.size := by
  rcases Nat.lt_or_ge q w.heap.size with h' | h'
  · exact h'
  · simp [World.cell?, Array.getElem?_eq_none h'] at hq
 have nq : q ≠ w.heap.size := by omega
 have hfl := Lib.hid (J4 s.toList p.toList)
 go_enter Tryz.func211, Tryz.ntmps211
 go_wp2
 go_ret
 rw [← hfl.out]
 exact ⟨rfl, (Below.refl _ _).alloc (Nat.le_refl _) _⟩
set_option maxHeartbeats 1000000 in
set_option maxRecDepth 100000 in
theorem IY (p : ByteArray) (w : World) (hi : Nat) (f : FL) (a : Option Addr) (c q : Nat) (hq : w.cell? ⟨q, 0, none⟩ = some (.string p)) (hf : f.len ≤ LIM) (hhi : hi ≤ w.heap.size) (hr : f.len = 0 ∨ ∃ b o, a = some ⟨b, o, none⟩ ∧ 0 ≤ b ∧ b < hi ∧ RF w 0 hi f b o) :
  Calls Tryz.prog 71 #[.slice a f.len c, .func (.func 211) #[] #[.pointer (some ⟨q, 0, none⟩)]] w fun e w' => e = .returned (.int .i64 (El p f 0)) ∧ Below w.heap.size w w' := by
 unfold LIM at hf
 obtain ⟨r, hr0⟩ : ∃ r, El p f 0 = r := ⟨_, rfl⟩
 rw [hr0]
 have HR := Lib.hid hr0
 clear hr0
 go_enter Tryz.func71, Tryz.ntmps71
 go_wp2
 go_loopw [8] (fun s8 wr => ∃ i : Nat, s8 = .int .i64 i ∧ i ≤ f.len ∧ Hid (El p (f.drop i) i = r) ∧ Below w.heap.size w wr) (fun s8 _ => f.len - (intOf s8).toNat)
 case atStart => exact ⟨0, rfl, Nat.zero_le _, Lib.hid (by rw [FL.drop_zero]; exact HR.out), Below.refl _ _⟩
 case round =>
  obtain ⟨i, rfl, hil, HD, hx⟩ := hrel
  by_cases h1 : i < f.len
  · rcases hr with h0 | ⟨b1, o1, rfl, _, hb1, hR1⟩
    · omega
    obtain ⟨⟨s, t⟩, ht⟩ := FL.get?_lt f i h1
    replace hR1 := RF.keep (Same.of_below (hx.mono hhi)) (Nat.le_refl _) (Nat.le_refl _) f b1 o1 hb1 hR1
    obtain ⟨en, hsn, v0, v1, v2, v3, v4, v5, e0, e1, e2, e3, e4, e5, hv⟩ := RF.at f b1 o1 i s t hR1 ht
    have HS := Lib.hid (NN p f i s t ht)
    have HC := Lib.hid (PX p s v0 v1 v2 v3 v4 v5 q wr (Ac hx hq))
    have hstep := HD.out
    rw [HS.out] at hstep
    have HX := Lib.hid hx
    clear hR1 hv ht HD HS HR hx hq
    cases hz : Op.bytesLess p.toList s.toList with
    | true =>
      rw [hz] at HC hstep
      have HST := Lib.hid hstep
      clear hstep hz
      go_wp2_with (go_at_call 211; refine (HC.out).mono ?_; rintro e w7 ⟨rfl, hb⟩)
      go_ret
      exact ⟨Bc (by simpa using HST.out), Aa HX.out HX.out.size hb⟩
    | false =>
      rw [hz] at HC hstep
      have HST := Lib.hid hstep
      clear hstep hz
      go_wp2_with (go_at_call 211; refine (HC.out).mono ?_; rintro e w7 ⟨rfl, hb⟩)
      go_roundw
      case rel => exact ⟨i + 1, by go_num, by omega, Lib.hid (by simpa using HST.out), Aa HX.out HX.out.size hb⟩
      case measure => simp [intOf]; omega
  · have he := HD.out
    rw [FL.drop_len f i (by omega), El] at he
    have HE := Lib.hid he
    clear he HD HR
    go_wp2
    go_ret
    exact ⟨Bc HE.out, hx⟩
theorem RX (w : World) (a b c d : Obj) : ∃ W, (((w.alloc a).alloc b).alloc c).alloc d = W ∧ W.heap[w.heap.size]? = some a ∧ W.heap[w.heap.size + 1]? = some b ∧ W.heap[w.heap.size + 1 + 1]? = some c ∧ W.heap[w.heap.size + 1 + 1 + 1]? = some d ∧ Below w.heap.size w W ∧ W.heap.size = w.heap.size + 4 := by
 refine ⟨_, rfl, Af (Af (Af (Ab w a))), ?_, ?_, ?_, ?_, by simp⟩
 · have h := Af (o := d) (Af (o := c) (Ab (w.alloc a) b))
   simpa using h
 · have h := Af (o := d) (Ab ((w.alloc a).alloc b) c)
   simpa using h
 · have h := Ab (((w.alloc a).alloc b).alloc c) d
   simpa using h
 · exact (((Below.refl _ _).alloc (Nat.le_refl _) _).alloc (by simp) _ |>.alloc (by simp; omega) _).alloc (by simp; omega) _
/- value.Put at a new name: slices.Insert by one contract; what is there behind it. -/
theorem MJ (A : Option Addr) (n c i vb B : Nat) (cs vs : List Value) (w : World) (hO : w.ownsRow B 53 7 (.slice A n c) n cs) (hi : i ≤ n) (hn : n ≤ 1000) (hB : B ≤ w.heap.size)
   (hvl : vs.length = 7) (hvb : w.heap[vb]? = some (.cells vs.toArray 53 (0, 0))) (hne : (Value.slice A n c).ownBlock ≠ some vb) (h1 : ∀ u ∈ vs, u.oneCell' = true) (h1c : ∀ u ∈ cs, u.oneCell' = true) :
   Calls Tryz.prog 212 #[.slice A n c, .int .i64 i, .slice (some ⟨vb, 0, none⟩) 1 1] w (InsPost w B (.slice A n c) n i cs vs) := by
 by_cases he : i = n
 · subst he
   refine MK A i c vb B cs vs w hO hn hB hvl (fun j u hj => ?_) h1
   rw [AS, Nat.zero_add]
   simp [World.cell?, hvb, hj]
 · have hlt : i < n := by omega
   rcases hO.2 with ⟨h, h0⟩ | ⟨g, cap, cur, h, _⟩
   · omega
   · cases h
     have hne2 : vb ≠ g := fun e => hne (by rw [e]; rfl)
     by_cases hr : n + 1 ≤ c
     · exact KJ g n c i vb B cs vs w hO hlt hr hn hvl hvb hne2 h1 h1c
     · exact L9 g n c i vb B cs vs w hO hlt (by omega) hn hB hvl hvb h1 h1c
theorem Gb {w : World} {g : Nat} {v : Value} {T : TypeId} (h : w.heap[g]? = some (.cells #[v] T (0, 0))) : w.cell? ⟨g, 0, none⟩ = some v := by
 simp [World.cell?, h]
theorem Mt {w : World} {lo hi : Nat} {k : Int} {b : Bool} {n : Int} {s : ByteArray} {l : VL} {f : FL} {cs : List Value} (h : RV w lo hi (.mk k b n s l f) cs) : I64 n ∧ s.size ≤ LIM := by
 unfold RV at h
 obtain ⟨_, _, _, _, _, _, hn, hs, _⟩ := h
 exact ⟨hn, hs⟩
theorem PY {w w5 w9 w12 w13 w14 : World} {mid q8 g' c' B : Nat} {b : Bool} {n : Int} {s : ByteArray} {f : FL} {A1 A2 : Option Addr} {C1 C2 : Nat} {name : ByteArray} {x : VT} {u0 u1 u2 u3 u4 u5 : Value} {ys : List Value}
  (hn : I64 n) (hs : s.size ≤ LIM) (hf : f.len ≤ 1000) (hnm : name.size ≤ LIM) (hq : q8 = w5.heap.size) (hB : w.heap.size ≤ B) (hm1 : B ≤ mid) (hm2 : mid ≤ w5.heap.size) (hys : Flds w5 (fun k => mid ≤ k ∧ k < q8) f ys)
  (hown : ∀ k, (Value.slice A2 f.len C2).ownBlock = some k → k < mid) (h59 : ∀ k, k < w5.heap.size → w9.heap[k]? = w5.heap[k]?) (hq9 : q8 < w9.heap.size)
  (h912 : Below w9.heap.size w9 w12) (hx : RV w12 w9.heap.size w12.heap.size x [u0, u1, u2, u3, u4, u5]) (h1213 : Below w12.heap.size w12 w13)
  (hins : w14.ownsRow B 53 7 (.slice (some ⟨g', 0, none⟩) (f.len + 1) c') (f.len + 1) (ys.take (atG name f * 7) ++ [.string name, u0, u1, u2, u3, u4, u5] ++ ys.drop (atG name f * 7)))
  (hgrow : w13.grownBy w14 (Value.slice A2 f.len C2).ownBlock) (hat : (Value.slice A2 f.len C2).ownBlock = some g' ∨ w13.heap.size ≤ g') :
  RV (w14.setCell ⟨q8, 5, none⟩ (.slice (some ⟨g', 0, none⟩) (f.len + 1) c')) w.heap.size (w14.setCell ⟨q8, 5, none⟩ (.slice (some ⟨g', 0, none⟩) (f.len + 1) c')).heap.size (.mk 6 b n s .nil (CP name x f)) [.int .u8 6, .bool b, .int .i64 n, .string s, .slice A1 0 C1, .slice (some ⟨g', 0, none⟩) (f.len + 1) c'] := by
 have s12 := h912.size
 have s13 := h1213.size
 have s14 := hgrow.size
 have hgl := (hins.lt g' rfl)
 have hsz : (w14.setCell ⟨q8, 5, none⟩ (.slice (some ⟨g', 0, none⟩) (f.len + 1) c')).heap.size = w14.heap.size := by simp
 have hgq : g' ≠ q8 := by
  rcases hat with h | h
  · have := hown _ h; omega
  · omega
 have far : ∀ k o, k ≠ q8 → (w14.setCell ⟨q8, 5, none⟩ (.slice (some ⟨g', 0, none⟩) (f.len + 1) c')).cell? ⟨k, o, none⟩ = w14.cell? ⟨k, o, none⟩ := fun k o hk => World.cell?_of_block (a := ⟨k, o, none⟩) (Below.heap_setCell _ _ _ _ hk)
 have hno : ∀ k, mid ≤ k → (Value.slice A2 f.len C2).ownBlock ≠ some k := fun k hk e => by have := hown k e; omega
 have to14 : ∀ k o, mid ≤ k → k < w12.heap.size → k ≠ q8 → (w14.setCell ⟨q8, 5, none⟩ (.slice (some ⟨g', 0, none⟩) (f.len + 1) c')).cell? ⟨k, o, none⟩ = w12.cell? ⟨k, o, none⟩ := fun k o h1 h2 h3 => by
  rw [far k o h3]
  refine (World.cell?_of_block (a := ⟨k, o, none⟩) (hgrow.block k (by omega) (fun e => hno k h1 e.symm))).trans ?_
  exact World.cell?_of_block (a := ⟨k, o, none⟩) (h1213.block k h2)
 have hQ1 : Flds (w14.setCell ⟨q8, 5, none⟩ (.slice (some ⟨g', 0, none⟩) (f.len + 1) c')) (fun k => mid ≤ k ∧ k < w12.heap.size) f ys := Flds.keep (fun k o hk => by
  rw [to14 k o hk.1 (by omega) (by omega)]
  exact (World.cell?_of_block (a := ⟨k, o, none⟩) (h912.block k (by omega))).trans (World.cell?_of_block (a := ⟨k, o, none⟩) (h59 k (by omega)))) (fun k hk => ⟨hk.1, by omega⟩) f ys hys
 have hQ2 : RQ (w14.setCell ⟨q8, 5, none⟩ (.slice (some ⟨g', 0, none⟩) (f.len + 1) c')) (fun k => mid ≤ k ∧ k < w12.heap.size) x [u0, u1, u2, u3, u4, u5] := RQ.keep (Q := fun k => w9.heap.size ≤ k ∧ k < w12.heap.size) (fun k o hk => to14 k o (by omega) hk.2 (by omega)) (fun k hk => ⟨by omega, hk.2⟩) x _ (RQ.of_rv x _ hx)
 have hins2 := Flds.insert hnm hQ2 f ys hQ1
 have hlen := Flds.length _ _ hins2
 rw [Dv] at hlen
 have hrow := Flds.rows (g := g') _ _ 0 hins2 (fun j hj => by
  rw [Nat.zero_add, far g' j hgq]
  exact hins.cellAt j (by rw [← hlen]; exact hj))
 obtain ⟨_, _, e, hc1, _⟩ : ∃ A c, Value.slice (some ⟨g', 0, none⟩) (f.len + 1) c' = .slice A (f.len + 1) c ∧ f.len + 1 ≤ c' ∧ True := ⟨_, _, rfl, by
  rcases hins.2 with ⟨h, _⟩ | ⟨g2, cap, cur, h, _, _, h2, _⟩
  · cases h
  · cases h; exact h2, trivial⟩
 unfold RV
 refine ⟨A1, C1, some ⟨g', 0, none⟩, c', by rw [Dv]; rfl, ⟨by decide, by decide⟩, hn, hs, Nat.zero_le _, by rw [Dv]; unfold LIM; omega, Nat.zero_le _, by rw [Dv]; exact hc1, Or.inl rfl, Or.inr ⟨g', 0, rfl, by omega, by rw [hsz]; exact hgl.2, ?_⟩⟩
 exact RQF.to_rv (fun k hk => ⟨by omega, by rw [hsz]; omega⟩) _ _ _ hrow
def RW (w W w5 : World) (b : Bool) (n : Int) (s : ByteArray) (f : FL) (name : ByteArray) (x : VT) (A1 : Option Addr) (C1 : Nat) (wx : World) : Prop :=
 ∃ g' c', wx.heap[w5.heap.size]? = some (.cells #[.int .u8 6, .bool b, .int .i64 n, .string s, .slice A1 0 C1, .slice (some ⟨g', 0, none⟩) (f.len + 1) c'] 27 (0, 0)) ∧
  wx.heap[w.heap.size + 1 + 1 + 1]? = some (.cells #[.int .u8 0, .bool false, .int .i64 0, .string ⟨#[]⟩, .slice none 0 0, .slice none 0 0] 27 (0, 0)) ∧ Below w.heap.size w wx ∧
  RV wx W.heap.size wx.heap.size (.mk 6 b n s .nil (CP name x f)) [.int .u8 6, .bool b, .int .i64 n, .string s, .slice A1 0 C1, .slice (some ⟨g', 0, none⟩) (f.len + 1) c']
theorem Ou {w W w5 W6 w9 w12 w14 : World} {mid g' c' at' : Nat} {b : Bool} {n : Int} {s : ByteArray} {f : FL} {a1 a2 A1 A2 : Option Addr} {c1 c2 C1 C2 : Nat} {name : ByteArray} {x : VT} {u0 u1 u2 u3 u4 u5 : Value} {ys : List Value}
  (HV0 : Hid (RV w 0 w.heap.size (.mk 6 b n s .nil f) [.int .u8 6, .bool b, .int .i64 n, .string s, .slice a1 0 c1, .slice a2 f.len c2])) (HFL : Hid (f.len ≤ 1000)) (HNM : Hid (name.size ≤ LIM)) (HS : Hid (W.heap.size = w.heap.size + 4)) (HB5 : Hid (Below W.heap.size W w5)) (HM1 : Hid (W.heap.size ≤ mid)) (HM2 : Hid (mid ≤ w5.heap.size))
  (HOWN : Hid (∀ k, (Value.slice A2 f.len C2).ownBlock = some k → k < mid)) (HO2 : Hid (w5.ownsRow W.heap.size 53 7 (.slice A2 f.len C2) f.len ys)) (HYS : Hid (Flds w5 (fun k => mid ≤ k ∧ k < w5.heap.size) f ys)) (HB6 : Hid (Below w5.heap.size w5 W6)) (HS6 : Hid (W6.heap.size = w5.heap.size + 1)) (HBW6 : Hid (Below w.heap.size w W6)) (HB9 : Hid (Below W6.heap.size W6 w9)) (HL9 : Hid (w5.heap.size < w9.heap.size))
  (HZ9 : Hid (w9.heap[w.heap.size + 1 + 1 + 1]? = some (.cells #[.int .u8 0, .bool false, .int .i64 0, .string ⟨#[]⟩, .slice none 0 0, .slice none 0 0] 27 (0, 0)))) (HATE : Hid (atG name f = at'))
  (HD12 : Hid (Below w9.heap.size w9 w12)) (HV12 : Hid (RV w12 w9.drew.heap.size w12.heap.size x [u0, u1, u2, u3, u4, u5])) (HGR : Hid ((w12.alloc (.cells #[.string name, u0, u1, u2, u3, u4, u5] 53)).grownBy w14 (Value.slice A2 f.len C2).ownBlock))
  (HINS2 : Hid (w14.ownsRow W.heap.size 53 7 (.slice (some ⟨g', 0, none⟩) (f.len + 1) c') (f.len + 1) (ys.take (at' * 7) ++ [.string name, u0, u1, u2, u3, u4, u5] ++ ys.drop (at' * 7)))) (HAT2 : Hid ((Value.slice A2 f.len C2).ownBlock = some g' ∨ (w12.alloc (.cells #[.string name, u0, u1, u2, u3, u4, u5] 53)).heap.size ≤ g'))
  (HZ14 : Hid (w14.heap[w5.heap.size]? = some (.cells #[.int .u8 6, .bool b, .int .i64 n, .string s, .slice A1 0 C1, .slice A2 f.len C2] 27 (0, 0)))) :
  RW w W w5 b n s f name x A1 C1 (w14.setCell ⟨w5.heap.size, 5, none⟩ (.slice (some ⟨g', 0, none⟩) (f.len + 1) c')) := by
 have hg14 := HGR.out
 have hd := HD12.out
 have hs1 := HL9.out
 have hs2 := hd.size
 have hs3 := HB5.out.size
 have hs4 := HS.out
 have hs5 := hg14.size
 have hm1 := HM1.out
 have hm2 := HM2.out
 have hs7 := HB9.out.size
 have hs8 := HS6.out
 have hlo : ∀ k, (Value.slice A2 f.len C2).ownBlock = some k → W.heap.size ≤ k := fun k hk => (HO2.out.lt k hk).1
 have hb9 : Below w.heap.size w w9 := Aa HBW6.out HBW6.out.size HB9.out
 have hb12 : Below w.heap.size w w12 := Aa hb9 hb9.size hd
 have hb13 : Below w.heap.size w (w12.alloc (.cells #[.string name, u0, u1, u2, u3, u4, u5] 53)) := Aa hb12 hb12.size (Ad _)
 have hb14 : Below w.heap.size w w14 := hb13.grown hg14 hb13.size (fun k hk => by have := hlo k hk; omega)
 have hsa : (w12.alloc (.cells #[.string name, u0, u1, u2, u3, u4, u5] 53)).heap.size = w12.heap.size + 1 := by simp
 have hres : w14.heap[w.heap.size + 1 + 1 + 1]? = some (.cells #[.int .u8 0, .bool false, .int .i64 0, .string ⟨#[]⟩, .slice none 0 0, .slice none 0 0] 27 (0, 0)) := (hg14.block _ (by omega) (fun e => by have := hlo _ e.symm; omega)).trans (Af (blk hd HZ9.out))
 have hrv := PY (w := W) (b := b) (B := W.heap.size) (A1 := A1) (C1 := C1) (Mt HV0.out).1 (Mt HV0.out).2 HFL.out HNM.out rfl (Nat.le_refl _) hm1 hm2 HYS.out HOWN.out (fun k hk => (HB9.out.block k (by omega)).trans (HB6.out.block k hk)) hs1 hd HV12.out (Ad _) (by rw [HATE.out]; exact HINS2.out) hg14 HAT2.out
 exact ⟨_, _, heap_setCell_same _ _ 5 _ _ _ HZ14.out, B9 (by omega) hres, hb14.setCell (p := ⟨w5.heap.size, 5, none⟩) (by show _ ≤ w5.heap.size; omega) _, hrv⟩
end Go.Proofs.YtbemgcjckchdjaaGreatDoor
