import Derived.Test.YtgjgllfeinjpnaaGreatDoorKRe
/- A path cut at its dots, place by place (plain). -/
namespace Go.Proofs.YtgjgllfeinjpnaaGreatDoor
open Go.RowKit
set_option linter.unusedSimpArgs false
set_option linter.unusedVariables false
theorem occ_one (s : List UInt8) (c : UInt8) (j : Nat) : Lib.occAt s [c] j = (s[j]? == some c) := by
  unfold Lib.occAt
  have h : (s.drop j)[0]? = s[j]? := by rw [List.getElem?_drop]; simp
  rw [← h]
  cases s.drop j with
  | nil => rfl
  | cons a t => simp [List.isPrefixOf, Bool.beq_eq_decide_eq, eq_comm]
theorem dot_data : dotS.data.toList = [46] := rfl
theorem dot_size : dotS.size = 1 := rfl
section
variable (s : ByteArray) (f i : Nat)
theorem cut_at (k : Nat) : (s.extract f s.size).data.toList[k]? = s.data.toList[f + k]? := by
  rw [Lib.extract_to_end, List.getElem?_drop]
theorem cut_size : (s.extract f s.size).size = s.size - f := by rw [ByteArray.size_extract]; omega
theorem cut_cut (g : Nat) (h : f + g ≤ s.size) : (s.extract f s.size).extract g (s.extract f s.size).size = s.extract (f + g) s.size := by
  rw [cut_size, ByteArray.extract_extract]
  congr 1
  omega
theorem split_hit (hfi : f ≤ i) (hi : i < s.size) (hd : s.data.toList[i]? = some 46) (hno : ∀ k, f ≤ k → k < i → s.data.toList[k]? ≠ some 46) :
    splitS (s.extract f s.size) dotS = s.extract f i :: splitS (s.extract (i + 1) s.size) dotS := by
  have hix : Lib.indexB (s.extract f s.size) dotS = ((i - f : Nat) : Int) := by
    refine Lib.index_first ?_ ?_ ?_
    · have := cut_size s f
      rw [Array.length_toList]
      show i - f ≤ (s.extract f s.size).size
      omega
    · rw [dot_data, occ_one, cut_at, show f + (i - f) = i by omega, hd]
      rfl
    · intro j hj
      rw [dot_data, occ_one, cut_at]
      have := hno (f + j) (by omega) (by omega)
      simpa using this
  have hc := Lib.countB_hit _ dotS (i - f) (by decide) hix
  rw [dot_size, cut_cut _ _ _ (by omega), show f + (i - f + 1) = i + 1 by omega] at hc
  unfold splitS
  rw [hc, Nat.add_comm 1, Lib.splitB_hit dotS 0 _ _ (i - f) hix, dot_size, cut_cut _ _ _ (by omega), show f + (i - f + 1) = i + 1 by omega]
  congr 1
  rw [ByteArray.extract_extract]
  congr 1 <;> omega
theorem split_end (hno : ∀ k, f ≤ k → s.data.toList[k]? ≠ some 46) : splitS (s.extract f s.size) dotS = [s.extract f s.size] := by
  have hix : Lib.indexB (s.extract f s.size) dotS = -1 := by
    refine Lib.index_none ?_
    intro j hj
    rw [dot_data, occ_one, cut_at]
    have := hno (f + j) (by omega)
    simpa using this
  unfold splitS
  rw [Lib.countB_miss _ _ hix]
  rfl
end
/-- the names found ahead of place i, and where the next one begins -/
structure Cuts (s : ByteArray) (ns : List ByteArray) (f i : Nat) : Prop where
  le : f ≤ i
  names : splitS s dotS = ns ++ splitS (s.extract f s.size) dotS
  clear : ∀ k, f ≤ k → k < i → s.data.toList[k]? ≠ some 46
theorem Cuts.start (s : ByteArray) : Cuts s [] 0 0 := by
  refine ⟨Nat.le_refl _, ?_, fun k _ h => absurd h (Nat.not_lt_zero _)⟩
  rw [ByteArray.extract_zero_size]
  rfl
theorem Cuts.next {s : ByteArray} {ns : List ByteArray} {f i : Nat} (h : Cuts s ns f i) (hd : s.data.toList[i]? ≠ some 46) : Cuts s ns f (i + 1) :=
  ⟨by have := h.le; omega, h.names, fun k h1 h2 => by
    by_cases hk : k = i
    · subst hk; exact hd
    · exact h.clear k h1 (by omega)⟩
theorem Cuts.hit {s : ByteArray} {ns : List ByteArray} {f i : Nat} (h : Cuts s ns f i) (hi : i < s.size) (hd : s.data.toList[i]? = some 46) : Cuts s (ns ++ [s.extract f i]) (i + 1) (i + 1) := by
  refine ⟨Nat.le_refl _, ?_, fun k h1 h2 => by omega⟩
  rw [h.names, split_hit s f i h.le hi hd h.clear]
  simp
theorem Cuts.last {s : ByteArray} {ns : List ByteArray} {f : Nat} (h : Cuts s ns f s.size) : splitS s dotS = ns ++ [s.extract f s.size] := by
  rw [h.names, split_end]
  intro k h1
  by_cases hk : k < s.size
  · exact h.clear k h1 hk
  · rw [List.getElem?_eq_none (by rw [Array.length_toList]; exact Nat.le_of_not_lt hk)]
    simp
theorem byte_at {s : ByteArray} {i : Nat} (h : i < s.size) : s.data.toList[i]? = some s[i] := by
  rw [List.getElem?_eq_getElem (by rw [Array.length_toList]; exact h)]
  rfl
theorem byte_dot {s : ByteArray} {i : Nat} {c : UInt8} (h : i < s.size) (hc : s[i] = c) (hd : c.toNat = 46) : s.data.toList[i]? = some 46 := by
  rw [byte_at h, hc]
  congr 1
  exact UInt8.toNat_inj.1 hd
theorem byte_no {s : ByteArray} {i : Nat} {c : UInt8} (h : i < s.size) (hc : s[i] = c) (hd : ¬ c.toNat = 46) : s.data.toList[i]? ≠ some 46 := by
  rw [byte_at h, hc]
  intro e
  cases e
  exact hd rfl
mutual
theorem sameV_refl : ∀ t : VT, sameV t t = true
  | .mk k b n s l f => by
    unfold sameV flatB
    rw [sameL_refl l, sameF_refl f]
    simp
theorem sameL_refl : ∀ l : VL, sameL l l = true
  | .nil => rfl
  | .cons t r => by
    unfold sameL
    rw [sameV_refl t, sameL_refl r]
    rfl
theorem sameF_refl : ∀ f : FL, sameF f f = true
  | .nil => rfl
  | .cons s t r => by
    unfold sameF
    rw [sameV_refl t, sameF_refl r]
    simp
end
abbrev pP (path : ByteArray) : ST := ⟨6, path, 0⟩
/-- what the one step of a path comes to -/
theorem eval_path (path : ByteArray) (row : VT) : evalE [pP path] row = if rightB [pP path] then (if checkV row 0 = 0 then ((getV row (splitS path dotS)).getD nullV, 0) else (nullV, checkV row 0)) else (nullV, 13) := by
  have t1 : (pP path).takes = 0 := rfl
  have h1 : oneR (pP path) row [] = ((getV row (splitS path dotS)).getD nullV, 0) := rfl
  have h2 : treeE row [pP path] = ((getV row (splitS path dotS)).getD nullV, 0) := by
    unfold treeE stackE
    simp only [List.foldl_cons, List.foldl_nil]
    unfold stepE
    rw [t1]
    simp only [List.length_nil, Int.toNat_zero, Nat.sub_self, List.take_nil, List.drop_nil, List.nil_append, h1]
    rfl
  unfold evalE
  rw [h2]
theorem right_path {path : ByteArray} (h : rightB [pP path] = true) : path.size ≤ 1024 := by
  have h2 := (right_parts h).1
  have h3 : rightStep (some 0) (pP path) = some 1 := h2
  unfold rightStep ST.ok stepOk at h3
  simp only [] at h3
  have hp : pathB path = true := by
    by_cases hp : pathB path = true
    · exact hp
    · simp [hp] at h3
  unfold pathB at hp
  simp only [Bool.and_eq_true, decide_eq_true_eq] at hp
  exact hp.2
theorem path_err {path : ByteArray} {row v : VT} {e : Int} (h : evalE [pP path] row = (v, e)) (he : e ≠ 0) : v = nullV := by
  rw [eval_path] at h
  split at h
  · split at h
    · cases h; exact absurd rfl he
    · cases h; rfl
  · cases h; rfl
theorem path_ok {path : ByteArray} {row v : VT} (h : evalE [pP path] row = (v, 0)) : path.size ≤ 1024 ∧ v = (getV row (splitS path dotS)).getD nullV := by
  rw [eval_path] at h
  split at h
  · rename_i hr
    split at h
    · cases h; exact ⟨right_path hr, rfl⟩
    · rename_i hc
      exact absurd (congrArg Prod.snd h) hc
  · cases h
end Go.Proofs.YtgjgllfeinjpnaaGreatDoor
/- codicillaw11.ExprPaths: the walk. -/
namespace Go.Proofs.YtgjgllfeinjpnaaGreatDoor
open Go.RowKit
set_option linter.unusedSimpArgs false
set_option linter.unusedVariables false
theorem Tryz.infoStr : (Tryz.prog.info? 9).map (fun i => (i.zero, i.size, i.bytes)) = some (some (.string ⟨#[]⟩), 1, 16) := by kernel_rfl
/-- the names found so far lie in a row of their own -/
def NamesAt (W wr : World) (ns : List ByteArray) (v : Value) : Prop := wr.ownsRow W.heap.size 9 1 v ns.length (ns.map Value.string) ∧ Below W.heap.size W wr
theorem NamesAt.next {W wr w0 w2 : World} {ns : List ByteArray} {v : Value} {x : ByteArray} {g cap : Nat} (h : NamesAt W wr ns v) (h0 : Below wr.heap.size wr w0) (hgrow : w0.grownBy w2 v.ownBlock) (hown : w2.ownsRow W.heap.size 9 1 (.slice (some ⟨g, 0, none⟩) (ns.length + 1) cap) (ns.length + 1) (ns.map Value.string ++ [.string x])) :
    NamesAt W w2 (ns ++ [x]) (.slice (some ⟨g, 0, none⟩) (ns.length + 1) cap) := by
  obtain ⟨hO, hB⟩ := h
  refine ⟨by rw [List.length_append, List.map_append]; exact hown, ?_⟩
  have hb := below_call0 hB hB.size h0
  exact hb.grown hgrow hb.size (fun k hk => (hO.lt k hk).1)
theorem NamesAt.out {W wr : World} {ns : List ByteArray} {v : Value} (h : NamesAt W wr ns v) : ∃ A c, v = .slice A ns.length c ∧ (ns.length = 0 ∨ ∃ b o, A = some ⟨b, o, none⟩ ∧ b < wr.heap.size ∧ ∀ i, i < ns.length → wr.cell? ⟨b, o + i, none⟩ = some (.string (ns.getD i ⟨#[]⟩))) := by
  obtain ⟨hO, hB⟩ := h
  rcases hO.2 with ⟨rfl, h0⟩ | ⟨g, cap, cur, rfl, _, hg, _⟩
  · exact ⟨none, 0, by rw [h0], Or.inl h0⟩
  · refine ⟨_, _, rfl, Or.inr ⟨g, 0, rfl, lt_of_block hg, fun i hi => ?_⟩⟩
    rw [Nat.zero_add, hO.cellAt i (by omega), List.getElem?_map, List.getElem?_eq_getElem hi]
    simp [List.getD, hi]
/-- how far the loop is -/
def PathAt (s : ByteArray) (ns : List ByteArray) (f i : Nat) : Prop := (i ≤ s.size ∧ Cuts s ns f i) ∨ (i = s.size + 1 ∧ f = s.size + 1 ∧ splitS s dotS = ns)
theorem PathAt.lens {s : ByteArray} {ns : List ByteArray} {f i : Nat} (h : PathAt s ns f i) : i ≤ s.size + 1 ∧ f ≤ i := by
  rcases h with ⟨h1, h2⟩ | ⟨h1, h2, _⟩
  · exact ⟨by omega, h2.le⟩
  · exact ⟨by omega, by omega⟩
theorem GetPost.parts {w w' : World} {r : Option VT} {x : Ending} (h : GetPost w r x w') : Below w.heap.size w w' ∧ ∃ (k : Int) (b : Bool) (n : Int) (s : ByteArray) (l : VL) (f : FL) (a1 : Option Addr) (c1 : Nat) (a2 : Option Addr) (c2 : Nat), r.getD nullV = .mk k b n s l f ∧ x = .returned (.tuple #[.agg #[.int .u8 k, .bool b, .int .i64 n, .string s, .slice a1 l.len c1, .slice a2 f.len c2], .bool r.isSome]) ∧
    RV w' w.heap.size w'.heap.size (.mk k b n s l f) [.int .u8 k, .bool b, .int .i64 n, .string s, .slice a1 l.len c1, .slice a2 f.len c2] := by
  obtain ⟨hb, h⟩ := h
  cases r with
  | none => exact ⟨hb, 0, false, 0, Ez, .nil, .nil, none, 0, none, 0, rfl, h, rv_null w'⟩
  | some t =>
    obtain ⟨k, b, n, s, a1, l1, c1, a2, l2, c2, e, hv⟩ := h
    obtain ⟨k', b', n', s', l, f, a1', c1', a2', c2', rfl, e2, _⟩ := RV.mk_parts hv
    simp only [List.cons.injEq, and_true, Value.int.injEq, Value.bool.injEq, Value.string.injEq, Value.slice.injEq, true_and] at e2
    obtain ⟨rfl, rfl, rfl, rfl, ⟨rfl, rfl, rfl⟩, rfl, rfl, rfl⟩ := e2
    exact ⟨hb, _, _, _, _, _, _, _, _, _, _, rfl, e, hv⟩
set_option maxHeartbeats 4000000 in
set_option maxRecDepth 100000 in
theorem paths_calls (row : VT) (r0 r1 r2 r3 r4 r5 : Value) (path : ByteArray) (w : World) (hL : Laid w) (hr : RV w 0 w.heap.size row [r0, r1, r2, r3, r4, r5]) (hs : path.size ≤ LIM) :
    Calls Tryz.prog 7 #[.agg #[r0, r1, r2, r3, r4, r5], .string path] w fun e w' => e = .returned (.bool true) ∧ Below w.heap.size w w' := by
  have HLD := Lib.hid hL
  have HRW := Lib.hid hr
  have HSZ := Lib.hid hs
  obtain ⟨kr, br, nr, sr, lr, fr, ar1, cr1, ar2, cr2, hrw, er, hj⟩ := RV.mk_parts hr
  clear hj
  simp only [List.cons.injEq, and_true] at er
  obtain ⟨rfl, rfl, rfl, rfl, rfl, rfl⟩ := er
  have hb0 := below_new (w := w) (.cells #[.int .u8 kr, .bool br, .int .i64 nr, .string sr, .slice ar1 lr.len cr1, .slice ar2 fr.len cr2] 26)
  have hx0 := heap_last w (.cells #[.int .u8 kr, .bool br, .int .i64 nr, .string sr, .slice ar1 lr.len cr1, .slice ar2 fr.len cr2] 26)
  have HLV := Lib.hid (lives_calls _ (hL.below hb0))
  have HB0 := Lib.hid hb0
  have HX0 := Lib.hid hx0
  clear hL hr hs hrw hb0 hx0
  go_enter Tryz.func7, Tryz.ntmps7
  go_upto_region 3 with (go_at_call 9; (with_reducible refine (HLV.out).mono ?_); rintro e w1 ⟨rfl, hb1⟩; have HB1 := Lib.hid (below_call0 HB0.out HB0.out.size hb1); have HX1 := Lib.hid (blk hb1 HX0.out); clear hb1)
  clear HLV HB0 HX0
  go_upto_region 4 with (fail)
  have hb2 := below_new (w := w1) (.cells #[.int .u8 6, .string path, .int .i64 0] 46)
  have hst := heap_last w1 (.cells #[.int .u8 6, .string path, .int .i64 0] 46)
  generalize w1.alloc (.cells #[.int .u8 6, .string path, .int .i64 0] 46) = W at *
  have HX := Lib.hid (blk hb2 HX1.out)
  have HB := Lib.hid (below_call0 HB1.out HB1.out.size hb2)
  have hrs : RowS W [pP path] (some ⟨w1.heap.size, 0, none⟩) := Or.inr ⟨_, _, rfl, fun i hi => by
    obtain rfl : i = 0 := by simpa using hi
    exact ⟨by simp [World.cell?, hst], by simp [World.cell?, hst], by simp [World.cell?, hst]⟩⟩
  have hev0 := eval_calls [pP path] (some ⟨w1.heap.size, 0, none⟩) 1 row _ _ _ _ _ _ W (show (1 : Nat) ≤ 1048576 by decide) (by intro s hs; simp only [List.mem_singleton] at hs; subst hs; exact ⟨show I64 0 by unfold I64; decide, HSZ.out, show (0 : Int) ≤ 6 by decide⟩) (by intro _ s hs; simp only [List.mem_singleton] at hs; subst hs; exact ⟨show (6 : Int) ≠ 7 by decide, show (6 : Int) ≠ 8 by decide⟩) (HLD.out.below HB.out) hrs (HRW.out.grow HB.out)
  obtain ⟨⟨⟨k, b, n, s, l, f⟩, e1⟩, he1⟩ : ∃ r : Rz, evalE [pP path] row = r := ⟨_, rfl⟩
  rw [he1, show [pP path].length = 1 from rfl] at hev0
  have HEV := Lib.hid hev0
  have HE1 := Lib.hid he1
  clear hev0 he1 hrs hst hb2 HX1 HB1
  obtain ⟨x0, x1, x2, x3, x4, x5, x6⟩ := cells6 HX.out
  go_upto_region 5 with (go_at_call 13; (with_reducible refine (HEV.out).mono ?_); intro e w8 hev; obtain ⟨hb8, a1, c1, a2, c2, rfl, hv8⟩ := hev.parts; have HB8 := Lib.hid hb8; have HV8 := Lib.hid hv8; clear hev hb8 hv8)
  have hb9 := below_new (w := w8) (.cells #[.int .u8 k, .bool b, .int .i64 n, .string s, .slice a1 l.len c1, .slice a2 f.len c2] 26)
  have hx9 := heap_last w8 (.cells #[.int .u8 k, .bool b, .int .i64 n, .string s, .slice a1 l.len c1, .slice a2 f.len c2] 26)
  generalize w8.alloc (.cells #[.int .u8 k, .bool b, .int .i64 n, .string s, .slice a1 l.len c1, .slice a2 f.len c2] 26) = W9 at *
  have HX9 := Lib.hid hx9
  have HV9 : Hid (RV W9 0 W9.heap.size (.mk k b n s l f) [.int .u8 k, .bool b, .int .i64 n, .string s, .slice a1 l.len c1, .slice a2 f.len c2]) := Lib.hid ((RV.keep (Same.of_below (Below.refl _ _)) (Nat.zero_le _) (Nat.le_refl _) _ _ HV8.out).grow hb9)
  have HR9 := Lib.hid (blk hb9 (blk HB8.out HX.out))
  have HB9 := Lib.hid (below_call0 (below_call0 HB.out HB.out.size HB8.out) (below_call0 HB.out HB.out.size HB8.out).size hb9)
  clear hb9 hx9 HV8 HB8 HX HB HEV x0 x1 x2 x3 x4 x5 x6
  by_cases hz : e1 = 0
  · subst hz
    obtain ⟨hp1, hp2⟩ := path_ok HE1.out
    have HPV := Lib.hid hp2
    clear hp2 HE1
    have hln := splitS_length path dotS (by decide)
    have hcl := Lib.countB_le dotS (by decide) path.size path (Nat.le_refl _)
    have HNL : Hid ((splitS path dotS).length ≤ 1025) := Lib.hid (by omega)
    have HNS : Hid (∀ p ∈ splitS path dotS, p.size ≤ LIM) := Lib.hid (fun p hp => by have := splitB_size dotS _ path p hp; unfold LIM; omega)
    clear hln hcl
    have hp2 : path.size < 1048576 := by omega
    go_wp2_with fail
    go_loopw [8, 9, 10] (fun s8 s9 s10 wr => ∃ (i f : Nat) (ns : List ByteArray) (v : Value), s8 = v ∧ s9 = .int .i64 f ∧ s10 = .int .i64 i ∧ Hid (PathAt path ns f i) ∧ Hid (NamesAt W9 wr ns v)) (fun _ _ s10 _ => path.size + 1 - (intOf s10).toNat)
    case atStart => exact ⟨0, 0, [], _, rfl, rfl, rfl, Lib.hid (Or.inl ⟨Nat.zero_le _, Cuts.start path⟩), Lib.hid ⟨World.ownsRow_nil _ _ _ _, Below.refl _ _⟩⟩
    case round =>
      obtain ⟨i, f', ns, v, e8, rfl, rfl, HP, HN⟩ := hrel
      have e8 := e8.symm
      subst e8
      obtain ⟨hi1, hf1⟩ := HP.out.lens
      by_cases hlt : i ≤ path.size
      · have hcu : Cuts path ns f' i := by
          rcases HP.out with ⟨_, h⟩ | ⟨h, _⟩
          · exact h
          · omega
        have HCU := Lib.hid hcu
        clear hcu HP
        have d1 : decide ((i : Int) ≤ (path.size : Int)) = true := decide_eq_true (by omega)
        have hle : ns.length ≤ 1025 := by
          have h := HCU.out.names
          have h2 := HNL.out
          rw [h, List.length_append] at h2
          omega
        obtain ⟨i0, hi0, hz00, hz1, hz2⟩ := info_parts Tryz.infoStr
        have E1 : Hid (ns.length + 1 ≤ maxLen) := Lib.hid (by unfold maxLen; omega)
        have E2 : Hid ((ns.length + 1) * 16 ≤ 140737488355328) := Lib.hid (by omega)
        clear hle
        by_cases hend : i = path.size
        · have d2 : ((i : Int) == (path.size : Int)) = true := by simp [hend]
          have HLA := Lib.hid (hend ▸ HCU.out : Cuts path ns f' path.size).last
          obtain ⟨x, hx⟩ : ∃ x, path.extract f' i = x := ⟨_, rfl⟩
          have HXE : Hid (path.extract f' path.size = x) := Lib.hid (by rw [← hend]; exact hx)
          have HEND := Lib.hid hend
          have E3 : Hid (W9.heap.size ≤ (wr.alloc (.cells #[.string x] 9)).heap.size) := Lib.hid (by have := HN.out.2.size; simp; omega)
          have E5 : Hid (∀ u ∈ ([.string x] : List Value), u.oneCell' = true) := Lib.hid (by intro u hu; simp only [List.mem_singleton] at hu; subst hu; rfl)
          clear hend
          go_wp2_with (at_builtin; refine wpList_append_lies _ rfl _ _ 33 rfl W9.heap.size 9 i0 (.string ⟨#[]⟩) 1 16 Tryz.underlying33 hi0 hz00 hz1 hz2 rfl (by decide) v ns.length (ns.map Value.string) (by rfl) (HN.out.1.alloc _) ⟨wr.heap.size, 0, none⟩ 1 1 [.string x] (by rfl) rfl one_at E5.out (by decide) E1.out E2.out E3.out (wr.heap.size + 1) (by simp) ?_; intro g' cap' w2 hown hgrow hat2 hlt2; have HNX := Lib.hid (HN.out.next (below_new _) hgrow hown); clear hown hgrow hat2 hlt2)
          go_roundw
          case rel => exact ⟨i + 1, i + 1, _, _, rfl, by go_num, by go_num, Lib.hid (Or.inr ⟨by have := HEND.out; omega, by have := HEND.out; omega, by rw [HLA.out, HXE.out]⟩), HNX⟩
          case measure => simp [intOf]; omega
        · have d2 : ((i : Int) == (path.size : Int)) = false := by rw [beq_eq_false_iff_ne]; omega
          have hlt2 : i < path.size := by omega
          obtain ⟨c, hc⟩ : ∃ c, path[i] = c := ⟨_, rfl⟩
          by_cases hdot : c.toNat = 46
          · have HNX0 := Lib.hid (HCU.out.hit hlt2 (byte_dot hlt2 hc hdot))
            have d3 : ((c.toNat : Int) == 46) = true := by simp [hdot]
            obtain ⟨x, hx⟩ : ∃ x, path.extract f' i = x := ⟨_, rfl⟩
            rw [hx] at HNX0
            have E3 : Hid (W9.heap.size ≤ (wr.alloc (.cells #[.string x] 9)).heap.size) := Lib.hid (by have := HN.out.2.size; simp; omega)
            have E5 : Hid (∀ u ∈ ([.string x] : List Value), u.oneCell' = true) := Lib.hid (by intro u hu; simp only [List.mem_singleton] at hu; subst hu; rfl)
            clear hdot hend
            go_wp2_with (at_builtin; refine wpList_append_lies _ rfl _ _ 33 rfl W9.heap.size 9 i0 (.string ⟨#[]⟩) 1 16 Tryz.underlying33 hi0 hz00 hz1 hz2 rfl (by decide) v ns.length (ns.map Value.string) (by rfl) (HN.out.1.alloc _) ⟨wr.heap.size, 0, none⟩ 1 1 [.string x] (by rfl) rfl one_at E5.out (by decide) E1.out E2.out E3.out (wr.heap.size + 1) (by simp) ?_; intro g' cap' w2 hown hgrow hat2 hlt2; have HNX := Lib.hid (HN.out.next (below_new _) hgrow hown); clear hown hgrow hat2 hlt2)
            go_roundw
            case rel => exact ⟨i + 1, i + 1, _, _, rfl, by go_num, by go_num, Lib.hid (Or.inl ⟨by omega, HNX0.out⟩), HNX⟩
            case measure => simp [intOf]; omega
          · have HNX0 := Lib.hid (HCU.out.next (byte_no hlt2 hc hdot))
            have d3 : ((c.toNat : Int) == 46) = false := by rw [beq_eq_false_iff_ne]; omega
            clear hdot hend
            go_wp2_with fail
            go_roundw
            case rel => exact ⟨i + 1, f', ns, _, rfl, rfl, by go_num, Lib.hid (Or.inl ⟨by omega, HNX0.out⟩), HN⟩
            case measure => simp [intOf]; omega
      · have hsp : splitS path dotS = ns := by
          rcases HP.out with ⟨h, _⟩ | ⟨_, _, h⟩
          · omega
          · exact h
        have d1 : decide ((i : Int) ≤ (path.size : Int)) = false := decide_eq_false (by omega)
        subst hsp
        have hbr := HN.out.2
        have HBR := Lib.hid (below_call0 HB9.out HB9.out.size hbr)
        obtain ⟨A, c, rfl, hnm⟩ := HN.out.out
        have HG0 := Get_any row (splitS path dotS) wr _ wr.heap.size A c (HRW.out.grow HBR.out) (Nat.le_refl _) (HLD.out.below HBR.out) (by have := HNL.out; unfold LIM; omega) HNS.out hnm
        have HX6 := Lib.hid (blk hbr HX9.out)
        have HR6 := blk hbr HR9.out
        have HV6 := Lib.hid (HV9.out.grow hbr)
        have hpv := HPV.out
        obtain ⟨r, hr⟩ : ∃ r, getV row (splitS path dotS) = r := ⟨_, rfl⟩
        rw [hr] at HG0 hpv
        have HG := Lib.hid HG0
        have hk0 : r.isSome = false → k = 0 := fun h => by
          cases r with
          | some t => cases h
          | none => cases hpv; rfl
        have HK0 := Lib.hid hk0
        have HPVR := Lib.hid hpv
        obtain ⟨x0, x1, x2, x3, x4, x5, x6⟩ := cells6 HR6
        generalize (splitS path dotS).length = m at *
        clear hbr hnm HG0 HR6 hpv hk0 hr HNL HNS HPV HN HP HB9 HR9 HX9 HV9
        go_upto_region 16 with (go_at_call 17; (with_reducible refine (HG.out).mono ?_); intro e w10 hget; obtain ⟨hb10, k', b', n', s', l', f'', a1', c1', a2', c2', hq, rfl, hv10⟩ := hget.parts; have HB10 := Lib.hid hb10; have HV10 := Lib.hid hv10; have HQ := Lib.hid hq; clear hget hb10 hv10 hq)
        have hq := HQ.out
        rw [← HPVR.out] at hq
        cases hq
        have hb11 := below_new (w := w10) (.cells #[.int .u8 k, .bool b, .int .i64 n, .string s, .slice a1' l.len c1', .slice a2' f.len c2'] 26)
        have hx11 := heap_last w10 (.cells #[.int .u8 k, .bool b, .int .i64 n, .string s, .slice a1' l.len c1', .slice a2' f.len c2'] 26)
        have hx12 := blk hb11 (blk HB10.out HX6.out)
        have hs0 := Same_any _ _ _ _ _ _ ((HV6.out.grow HB10.out).grow hb11) ((RV.keep (Same.of_below (Below.refl _ _)) (Nat.zero_le _) (Nat.le_refl _) _ _ HV10.out).grow hb11) (Nat.le_refl _)
        rw [sameV_refl] at hs0
        generalize w10.alloc (.cells #[.int .u8 k, .bool b, .int .i64 n, .string s, .slice a1' l.len c1', .slice a2' f.len c2'] 26) = W11 at *
        have HS := Lib.hid hs0
        have HX12 := Lib.hid hx12
        have HB11 := Lib.hid (below_call0 (below_call0 HBR.out HBR.out.size HB10.out) (below_call0 HBR.out HBR.out.size HB10.out).size hb11)
        clear x0 x1 x2 x3 x4 x5 x6
        obtain ⟨x0, x1, x2, x3, x4, x5, x6⟩ := cells6 hx12
        obtain ⟨y0, y1, y2, y3, y4, y5, y6⟩ := cells6 hx11
        clear hb11 hx11 hx12 hs0 HV6 HV10 HX6 HB10 HQ HPVR HBR HG
        cases hsome : r.isSome with
        | true =>
          clear hsome HK0
          go_wp2_with (go_at_call 15; (with_reducible refine (HS.out).mono ?_); rintro e w3 ⟨rfl, hb3⟩; have HB3 := Lib.hid (below_call0 HB11.out HB11.out.size hb3); clear hb3)
          go_ret
          exact ⟨rfl, HB3.out⟩
        | false =>
          have hk := HK0.out hsome
          subst hk
          clear hsome HK0
          go_wp2_with (go_at_call 15; (with_reducible refine (HS.out).mono ?_); rintro e w3 ⟨rfl, hb3⟩; have HB3 := Lib.hid (below_call0 HB11.out HB11.out.size hb3); have hp := blk hb3 HX12.out; clear hb3 x0 x1 x2 x3 x4 x5 x6 y0 y1 y2 y3 y4 y5 y6; obtain ⟨x0, x1, x2, x3, x4, x5, x6⟩ := cells6 hp; clear hp)
          go_ret
          exact ⟨rfl, HB3.out⟩
  · have h0 : (e1 != 0) = true := by simpa using hz
    have hnv := path_err HE1.out hz
    have hs0 := Same_any _ nullV W9 _ _ W9.heap.size HV9.out (rv_null W9) (Nat.le_refl _)
    rw [hnv, sameV_refl] at hs0
    have HS := Lib.hid hs0
    clear hz hs0 hnv HE1
    obtain ⟨z0, z1, z2, z3, z4, z5, z6⟩ := cells6 HX9.out
    go_wp2_with (go_at_call 15; (with_reducible refine (HS.out).mono ?_); rintro e w3 ⟨rfl, hb3⟩; have HB3 := Lib.hid (below_call0 HB9.out HB9.out.size hb3); clear hb3)
    go_ret
    exact ⟨rfl, HB3.out⟩
end Go.Proofs.YtgjgllfeinjpnaaGreatDoor
