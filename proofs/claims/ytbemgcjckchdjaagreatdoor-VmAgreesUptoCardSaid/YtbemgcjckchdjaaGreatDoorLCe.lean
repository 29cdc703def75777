import Derived.Test.YtbemgcjckchdjaaGreatDoorLCa
import Derived.MapKept
import Derived.Maps.OwnOps
import Derived.Test.YtbemgcjckchdjaaGreatDoorLEj
import Derived.Test.YtbemgcjckchdjaaGreatDoorLVa
/- A map of ints by ints: lookup and update as run equations. -/
namespace Go.Proofs.YtbemgcjckchdjaaGreatDoor
open Go.RowKit
set_option linter.unusedSimpArgs false
set_option linter.unusedVariables false
theorem Tryz.underMI : Tryz.prog.underlying 85 = some (.map 3 3) := by kernel_rfl
theorem Tryz.underI : Tryz.prog.underlying 3 = some (.int .i64) := by kernel_rfl
abbrev ET := List (Int × Int × Nat)
def ent (x : Int × Int × Nat) : MapEntry := { key := .int .i64 x.1, val := .int .i64 x.2.1, born := x.2.2 }
def Bw : ET → Int → Option Int
 | [], _ => none
 | (a, v, _) :: r, k => if k = a then some v else Bw r k
def CX : ET → Int → Nat → Option (Nat × Value)
 | [], _, _ => none
 | (a, v, _) :: r, k, i => if k = a then some (i, .int .i64 v) else CX r k (i + 1)
def Fd : ET → Int → Int → ET
 | [], _, _ => []
 | (a, u, b) :: r, k, v => if k = a then (k, v, b) :: r else (a, u, b) :: Fd r k v
theorem EF (k : Int) : ∀ (ps : ET) (i : Nat), Instr.findNow (.int .i64) (.int .i64 k) (ps.map ent) i = some (CX ps k i)
 | [], i => rfl
 | (a, v, b) :: r, i => by
   show (match Instr.sameNow (.int .i64) (.int .i64 k) (.int .i64 a) with | some true => some (some (i, Value.int .i64 v)) | some false => Instr.findNow (.int .i64) (.int .i64 k) (r.map ent) (i + 1) | none => none) = _
   have e : Instr.sameNow (.int .i64) (.int .i64 k) (.int .i64 a) = some (k == a) := rfl
   rw [e]
   by_cases h : k = a
   · subst h
     simp [CX]
   · have h2 : (k == a) = false := by simpa using h
     rw [h2]
     show Instr.findNow _ _ (r.map ent) (i + 1) = _
     rw [EF k r (i + 1), CX, if_neg h]
theorem DW (k : Int) : ∀ (ps : ET) (i : Nat), Bw ps k = none → CX ps k i = none
 | [], _, _ => rfl
 | (a, v, b) :: r, i, h => by
   unfold Bw at h
   unfold CX
   split at h
   · cases h
   · rename_i hn
     rw [if_neg hn]
     exact DW k r (i + 1) h
theorem DX (k : Int) : ∀ (ps : ET) (i : Nat) (v : Int), Bw ps k = some v → ∃ j, CX ps k i = some (i + j, .int .i64 v) ∧ j < ps.length ∧ (∀ x, ps[j]? = some x → x.1 = k) ∧ ∀ u, (ps.map ent).modify j (fun e => { e with key := .int .i64 k, val := .int .i64 u }) = (Fd ps k u).map ent
 | [], _, _, h => by cases h
 | (a, w, b) :: r, i, v, h => by
   unfold Bw at h
   by_cases hk : k = a
   · rw [if_pos hk] at h
     refine ⟨0, ?_, by simp, fun x hx => ?_, fun u => ?_⟩
     · rw [CX, if_pos hk, Nat.add_zero]
       cases h; rfl
     · cases hx; exact hk.symm
     · rw [Fd, if_pos hk]; rfl
   · rw [if_neg hk] at h
     obtain ⟨j, h1, h2, h3, h4⟩ := DX k r (i + 1) v h
     refine ⟨j + 1, ?_, by simpa using h2, fun x hx => h3 x (by simpa using hx), fun u => ?_⟩
     · rw [CX, if_neg hk, h1, show i + 1 + j = i + (j + 1) by omega]
     · rw [Fd, if_neg hk, List.map_cons, List.map_cons, List.modify_succ_cons, h4 u]
theorem KS (k u : Int) : ∀ (ps : ET) (k' : Int), Bw ps k ≠ none → Bw (Fd ps k u) k' = if k' = k then some u else Bw ps k'
 | [], _, h => absurd rfl h
 | (a, w, b) :: r, k', h => by
   by_cases hk : k = a
   · subst hk
     rw [Fd, if_pos rfl, Bw, Bw]
     split <;> rfl
   · rw [Fd, if_neg hk, Bw, Bw]
     have h2 : Bw r k ≠ none := by
       rw [Bw, if_neg hk] at h
       exact h
     by_cases hka : k' = a
     · subst hka
       rw [if_pos rfl, if_pos rfl, if_neg (fun e => hk e.symm)]
     · rw [if_neg hka, if_neg hka]
       exact KS k u r k' h2
theorem J7 (k u : Int) (b : Nat) : ∀ (ps : ET) (k' : Int), Bw ps k = none → Bw (ps ++ [(k, u, b)]) k' = if k' = k then some u else Bw ps k'
 | [], k', _ => rfl
 | (a, w, b') :: r, k', h => by
   rw [Bw] at h
   by_cases hk : k = a
   · rw [if_pos hk] at h; cases h
   · rw [if_neg hk] at h
     rw [List.cons_append, Bw, Bw]
     by_cases hka : k' = a
     · subst hka
       rw [if_pos rfl, if_pos rfl, if_neg (fun e => hk e.symm)]
     · rw [if_neg hka, if_neg hka]
       exact J7 k u b r k' h
def MapH (w : World) (m : Nat) (h : HT) : Prop := ∃ (ps : ET) (c : Nat), w.heap[m]? = some (.map (ps.map ent).toArray c) ∧ ∀ k, Bw ps k = h k
theorem MapH.block {w w' : World} {m : Nat} {h : HT} (hm : MapH w m h) (hb : w'.heap[m]? = w.heap[m]?) : MapH w' m h := by
 obtain ⟨ps, c, h1, h2⟩ := hm
 exact ⟨ps, c, hb.trans h1, h2⟩
theorem MapH.lt {w : World} {m : Nat} {h : HT} (hm : MapH w m h) : m < w.heap.size := by
 obtain ⟨ps, c, h1, h2⟩ := hm
 exact lt_of_block h1
theorem De {w : World} {m : Nat} {h : HT} (hm : MapH w m h) (k : Int) : (Instr.lookup 85 (.map (some m)) (.int .i64 k) true).run Tryz.prog w = .ok (.tuple #[.int .i64 ((h k).getD 0), .bool (h k).isSome]) w := by
 obtain ⟨ps, c, h1, h2⟩ := hm
 have hz : (zeroValue 3).run Tryz.prog w = .ok (.int .i64 0) w := by kernel_rfl
 have hf : (Instr.findKey 3 (.int .i64 k) (ps.map ent)).run Tryz.prog w = .ok (CX ps k 0) w := MapKept.run_findKey Tryz.underI (EF k ps 0)
 have hck := fun e => MapKept.run_checkKey (P := Tryz.prog) (w := w) (kt := 3) (k := .int .i64 k) Tryz.underI rfl e 9999
 rw [← h2 k]
 cases hv : Bw ps k with
 | none =>
   rw [DW k ps 0 hv] at hf
   simp [Instr.lookup, run_underlying Tryz.underMI, MapKept.run_getObj_map h1, hck, hf, hz, Result.andThen]
 | some v =>
   obtain ⟨j, e, _⟩ := DX k ps 0 v hv
   rw [e] at hf
   simp [Instr.lookup, run_underlying Tryz.underMI, MapKept.run_getObj_map h1, hck, hf, Result.andThen]
theorem Nd {w : World} {m : Nat} {h : HT} (hm : MapH w m h) (k : Int) : (Instr.lookup 85 (.map (some m)) (.int .i64 k) false).run Tryz.prog w = .ok (.int .i64 ((h k).getD 0)) w := by
 obtain ⟨ps, c, h1, h2⟩ := hm
 have hz : (zeroValue 3).run Tryz.prog w = .ok (.int .i64 0) w := by kernel_rfl
 have hf : (Instr.findKey 3 (.int .i64 k) (ps.map ent)).run Tryz.prog w = .ok (CX ps k 0) w := MapKept.run_findKey Tryz.underI (EF k ps 0)
 have hck := fun e => MapKept.run_checkKey (P := Tryz.prog) (w := w) (kt := 3) (k := .int .i64 k) Tryz.underI rfl e 9999
 rw [← h2 k]
 cases hv : Bw ps k with
 | none =>
   rw [DW k ps 0 hv] at hf
   simp [Instr.lookup, run_underlying Tryz.underMI, MapKept.run_getObj_map h1, hck, hf, hz, Result.andThen]
 | some v =>
   obtain ⟨j, e, _⟩ := DX k ps 0 v hv
   rw [e] at hf
   simp [Instr.lookup, run_underlying Tryz.underMI, MapKept.run_getObj_map h1, hck, hf, Result.andThen]
theorem Qe {w : World} {m : Nat} {h : HT} (hm : MapH w m h) (k v : Int) : ∃ o, (Instr.mapUpdate 85 (.map (some m)) (.int .i64 k) (.int .i64 v)).run Tryz.prog w = .ok () { w with heap := w.heap.setIfInBounds m o } ∧ MapH { w with heap := w.heap.setIfInBounds m o } m (BR h k v) := by
 obtain ⟨ps, c, h1, h2⟩ := hm
 have hf : (Instr.findKey 3 (.int .i64 k) (ps.map ent)).run Tryz.prog w = .ok (CX ps k 0) w := MapKept.run_findKey Tryz.underI (EF k ps 0)
 have hck := fun e => MapKept.run_checkKey (P := Tryz.prog) (w := w) (kt := 3) (k := .int .i64 k) Tryz.underI rfl e 9999
 have hstay : (Instr.keyThatStays (.int .i64 k) (.int .i64 k)).run Tryz.prog w = .ok (.int .i64 k) w := MapKept.run_keyThatStays (d := .int .i64) rfl
 cases hv : Bw ps k with
 | none =>
   rw [DW k ps 0 hv] at hf
   refine ⟨.map ((ps ++ [(k, v, c)]).map ent).toArray (c + 1), ?_, ps ++ [(k, v, c)], c + 1, (MapKept.heap_set h1).1, fun k' => ?_⟩
   · have e : ((ps ++ [(k, v, c)]).map ent).toArray = ((ps.map ent).toArray).push { key := .int .i64 k, val := .int .i64 v, born := c } := by simp [ent]
     rw [e]
     simp [Instr.mapUpdate, run_underlying Tryz.underMI, MapKept.run_getObj_map h1, hck, hf, MapKept.run_setObj_map _ h1, Result.andThen]
   · rw [J7 k v c ps k' hv]
     show (if k' = k then some v else Bw ps k') = (if k' = k then some v else h k')
     rw [h2 k']
 | some u =>
   obtain ⟨j, e, hj, hkj, hmod⟩ := DX k ps 0 u hv
   rw [e, Nat.zero_add] at hf
   refine ⟨.map ((Fd ps k v).map ent).toArray c, ?_, Fd ps k v, c, (MapKept.heap_set h1).1, fun k' => ?_⟩
   · have hkey : (Option.map ((fun x : MapEntry => x.key) ∘ ent) ps[j]?).getD (.int .i64 k) = .int .i64 k := by
      cases hx : ps[j]? with
      | none => rfl
      | some x => simp [ent, hkj x hx]
     have e2 : ((Fd ps k v).map ent).toArray = ((ps.map ent).toArray).modify j (fun e => { e with key := .int .i64 k, val := .int .i64 v }) := by rw [← hmod v]; simp
     rw [e2]
     simp [Instr.mapUpdate, run_underlying Tryz.underMI, MapKept.run_getObj_map h1, hck, hf, hkey, hstay, MapKept.run_setObj_map _ h1, Result.andThen]
   · rw [KS k v ps k' (by rw [hv]; simp)]
     show (if k' = k then some v else Bw ps k') = (if k' = k then some v else h k')
     rw [h2 k']
/- (*code.checker).come. -/
def MapFr (gm : Nat) (w w' : World) : Prop := ∃ o, w' = { w with heap := w.heap.setIfInBounds gm o }
theorem MapFr.below {gm B : Nat} {w w' : World} (h : MapFr gm w w') (hb : B ≤ gm) : Below B w w' := by
 obtain ⟨o, rfl⟩ := h
 exact ⟨rfl, rfl, rfl, by simp, fun i hi => by simp only [Array.getElem?_setIfInBounds]; rw [if_neg (by omega)]⟩
theorem MapFr.size {gm : Nat} {w w' : World} (h : MapFr gm w w') : w'.heap.size = w.heap.size := by
 obtain ⟨o, rfl⟩ := h
 simp
theorem MapFr.block {gm b : Nat} {w w' : World} (h : MapFr gm w w') (hb : b ≠ gm) : w'.heap[b]? = w.heap[b]? := by
 obtain ⟨o, rfl⟩ := h
 simp only [Array.getElem?_setIfInBounds]
 rw [if_neg (fun e => hb e.symm)]
theorem MapFr.cell {gm b : Nat} {w w' : World} (h : MapFr gm w w') (hb : b ≠ gm) (o : Nat) : w'.cell? ⟨b, o, none⟩ = w.cell? ⟨b, o, none⟩ := World.cell?_of_block (a := ⟨b, o, none⟩) (h.block hb)
def Kl (gm : Nat) (w : World) (r : HT × Bool) (e : Ending) (w' : World) : Prop := e = .returned (.bool r.2) ∧ MapH w' gm r.1 ∧ MapFr gm w w'
set_option maxHeartbeats 1000000 in
set_option maxRecDepth 100000 in
theorem DP (P gm : Nat) (A : Option Addr) (n c : Nat) (h : HT) (a v : Int) (w : World) (hP : w.heap[P]? = some (.cells #[.slice A n c, .map (some gm)] 87 (0, 0))) (hm : MapH w gm h) :
   Calls Tryz.prog 51 #[.pointer (some ⟨P, 0, none⟩), .int .i64 a, .int .i64 v] w (Kl gm w (AN h a v)) := by
 have r1 := De hm a
 obtain ⟨o, hu, hm2⟩ := Qe hm a v
 have HM2 := Lib.hid hm2
 have HP := Lib.hid hP
 have hl := lt_of_block hP
 have hF : MapFr gm w { w with heap := w.heap.setIfInBounds gm o } := ⟨o, rfl⟩
 have HF := Lib.hid hF
 obtain ⟨x0, x1⟩ := AT hP
 show Calls _ _ _ _ (Kl gm w (BR h a v, match h a with | none => true | some u => decide (u = v)))
 clear hm hm2 hP hF
 cases hh : h a with
 | none =>
   rw [hh] at r1
   clear hh
   go_enter Tryz.func51, Tryz.ntmps51
   go_wp2_with fail
   go_ret
   exact ⟨rfl, HM2.out, HF.out⟩
 | some u =>
   rw [hh] at r1
   clear hh
   by_cases huv : u = v
   · have d : (u == v) = true := by simpa using huv
     have HD : Hid (decide (u = v) = true) := Lib.hid (decide_eq_true huv)
     clear huv
     go_enter Tryz.func51, Tryz.ntmps51
     go_wp2_with fail
     go_ret
     exact ⟨by show _ = Ending.returned (.bool (decide (u = v))); rw [HD.out]; rfl, HM2.out, HF.out⟩
   · have d : (u == v) = false := by simpa using huv
     have HD : Hid (decide (u = v) = false) := Lib.hid (decide_eq_false huv)
     clear huv
     go_enter Tryz.func51, Tryz.ntmps51
     go_wp2_with fail
     go_ret
     exact ⟨by show _ = Ending.returned (.bool (decide (u = v))); rw [HD.out]; rfl, HM2.out, HF.out⟩
/- (*code.checker).step: places that are not come tg, instructions that are none (printed by genck.py). -/
def CkAt (B : Nat) (p : List IT) (P gm : Nat) (A : Option Addr) (c : Nat) (h : HT) (w : World) : Prop :=
 w.heap[P]? = some (.cells #[.slice A p.length c, .map (some gm)] 87 (0, 0)) ∧ MapH w gm h ∧ P ≠ gm ∧ B ≤ gm ∧ B ≤ P ∧ B ≤ w.heap.size ∧ RowI w p A ∧ ∀ b o, A = some ⟨b, o, none⟩ → b ≠ gm
theorem CkAt.keep {B : Nat} {p : List IT} {P gm : Nat} {A : Option Addr} {c : Nat} {h : HT} {w w' : World} (hk : CkAt B p P gm A c h w) (hb : Below w.heap.size w w') : CkAt B p P gm A c h w' := by
 obtain ⟨h1, h2, h3, h4, h5, h6, h7, h8⟩ := hk
 exact ⟨blk hb h1, h2.block (hb.block _ h2.lt), h3, h4, h5, Nat.le_trans h6 hb.size, h7.keep hb, h8⟩
theorem CkAt.come {B : Nat} {p : List IT} {P gm : Nat} {A : Option Addr} {c : Nat} {h h' : HT} {w w' : World} (hk : CkAt B p P gm A c h w) (hf : MapFr gm w w') (hm : MapH w' gm h') : CkAt B p P gm A c h' w' := by
 obtain ⟨h1, h2, h3, h4, h5, h6, h7, h8⟩ := hk
 refine ⟨(hf.block h3).trans h1, hm, h3, h4, h5, by rw [hf.size]; exact h6, h7.keepB fun b _ ha => ?_, h8⟩
 obtain ⟨o, e⟩ := ha
 exact hf.block (h8 b o e)
def Eh (B : Nat) (p : List IT) (P gm : Nat) (A : Option Addr) (c : Nat) (r : Option HT) (w : World) (e : Ending) (w' : World) : Prop :=
 Below B w w' ∧ match r with | none => e = .returned (.bool false) | some h' => e = .returned (.bool true) ∧ CkAt B p P gm A c h' w'
set_option maxHeartbeats 4000000 in
set_option maxRecDepth 100000 in
theorem QV (B : Nat) (p : List IT) (P gm : Nat) (A : Option Addr) (c : Nat) (h : HT) (i : Nat) (hi : i < p.length) (hlen : p.length ≤ 256) (o : Int) (k : Int) (t : ByteArray) (n tg : Int) (hx : p[i] = ⟨o, ⟨k, t, n⟩, tg⟩) (hh : h (i : Int) = none) (w : World) (hL : Laid w) (hw : CkAt B p P gm A c h w) :
   Calls Tryz.prog 35 #[.pointer (some ⟨P, 0, none⟩), .int .i64 i] w (Eh B p P gm A c (none) w) := by
 have HW := Lib.hid hw
 have HL := Lib.hid hL
 obtain ⟨hP, hM, hne, hBg, hBP, hBw, hrow, hA⟩ := hw
 rcases hrow with h0 | ⟨b, ao, rfl, hin⟩
 · omega
 obtain ⟨x0, x1, x2, x3, x4⟩ := hin i hi
 rw [hx] at x0 x1 x2 x3 x4
 obtain ⟨y0, y1⟩ := AT hP
 have hpl : P < w.heap.size := lt_of_block hP
 have hgl := hM.lt
 have HP := Lib.hid hP
 have HM := Lib.hid hM
 have HBW := Lib.hid hBw
 have hb1 := Ad (w := w) (.cells #[.int .u8 o, .int .u8 k, .string t, .int .i64 n, .int .i64 tg] 73)
 have hq1 := Ab w (.cells #[.int .u8 o, .int .u8 k, .string t, .int .i64 n, .int .i64 tg] 73)
 have hs1 : (w.alloc (.cells #[.int .u8 o, .int .u8 k, .string t, .int .i64 n, .int .i64 tg] 73)).heap.size = w.heap.size + 1 := by simp
 clear hin hP hM hx hA hL
 go_enter Tryz.func35, Tryz.ntmps35
 go_upto_region 2 with (fail)
 generalize w.alloc (.cells #[.int .u8 o, .int .u8 k, .string t, .int .i64 n, .int .i64 tg] 73) = W1 at *
 have HB1 := Lib.hid hb1
 have HQ1 := Lib.hid hq1
 have HS1 := Lib.hid hs1
 clear x0 x1 x2 x3 x4 y0 y1 hb1 hq1 hs1
 have hM1 := HM.out.block (w' := W1) (HB1.out.block _ hgl)
 obtain ⟨y0, y1⟩ := AT (blk HB1.out HP.out)
 obtain ⟨q0, q1, q2, q3, q4⟩ := AF HQ1.out
 have r1 := De hM1 (i : Int)
 rw [hh] at r1
 clear hh
 go_wp2_with fail
 go_ret
 exact ⟨HB1.out.mono HBW.out, rfl⟩
set_option maxHeartbeats 4000000 in
set_option maxRecDepth 100000 in
theorem Pm (B : Nat) (p : List IT) (P gm : Nat) (A : Option Addr) (c : Nat) (h : HT) (i : Nat) (hi : i < p.length) (hlen : p.length ≤ 256) (o ht : Int) (k : Int) (t : ByteArray) (n tg : Int) (hx : p[i] = ⟨o, ⟨k, t, n⟩, tg⟩) (hh : h (i : Int) = some ht) (o1 : (o == 1) = false) (o2 : (o == 2) = false) (o3 : (o == 3) = false) (o4 : (o == 4) = false) (o5 : (o == 5) = false) (w : World) (hL : Laid w) (hw : CkAt B p P gm A c h w) :
   Calls Tryz.prog 35 #[.pointer (some ⟨P, 0, none⟩), .int .i64 i] w (Eh B p P gm A c (none) w) := by
 have HW := Lib.hid hw
 have HL := Lib.hid hL
 obtain ⟨hP, hM, hne, hBg, hBP, hBw, hrow, hA⟩ := hw
 rcases hrow with h0 | ⟨b, ao, rfl, hin⟩
 · omega
 obtain ⟨x0, x1, x2, x3, x4⟩ := hin i hi
 rw [hx] at x0 x1 x2 x3 x4
 obtain ⟨y0, y1⟩ := AT hP
 have hpl : P < w.heap.size := lt_of_block hP
 have hgl := hM.lt
 have HP := Lib.hid hP
 have HM := Lib.hid hM
 have HBW := Lib.hid hBw
 have hb1 := Ad (w := w) (.cells #[.int .u8 o, .int .u8 k, .string t, .int .i64 n, .int .i64 tg] 73)
 have hq1 := Ab w (.cells #[.int .u8 o, .int .u8 k, .string t, .int .i64 n, .int .i64 tg] 73)
 have hs1 : (w.alloc (.cells #[.int .u8 o, .int .u8 k, .string t, .int .i64 n, .int .i64 tg] 73)).heap.size = w.heap.size + 1 := by simp
 clear hin hP hM hx hA hL
 go_enter Tryz.func35, Tryz.ntmps35
 go_upto_region 2 with (fail)
 generalize w.alloc (.cells #[.int .u8 o, .int .u8 k, .string t, .int .i64 n, .int .i64 tg] 73) = W1 at *
 have HB1 := Lib.hid hb1
 have HQ1 := Lib.hid hq1
 have HS1 := Lib.hid hs1
 clear x0 x1 x2 x3 x4 y0 y1 hb1 hq1 hs1
 have hM1 := HM.out.block (w' := W1) (HB1.out.block _ hgl)
 obtain ⟨y0, y1⟩ := AT (blk HB1.out HP.out)
 obtain ⟨q0, q1, q2, q3, q4⟩ := AF HQ1.out
 have r1 := De hM1 (i : Int)
 have HH := Lib.hid hh
 clear hh
 rw [HH.out] at r1
 go_upto_region 6 with (fail)
 have hb2 := Ad (w := W1) (.cells #[.int .u8 o, .int .u8 0, .string ⟨#[]⟩, .int .i64 0, .int .i64 0] 73)
 have hq2 := Ab W1 (.cells #[.int .u8 o, .int .u8 0, .string ⟨#[]⟩, .int .i64 0, .int .i64 0] 73)
 have hs2 : (W1.alloc (.cells #[.int .u8 o, .int .u8 0, .string ⟨#[]⟩, .int .i64 0, .int .i64 0] 73)).heap.size = W1.heap.size + 1 := by simp
 generalize W1.alloc (.cells #[.int .u8 o, .int .u8 0, .string ⟨#[]⟩, .int .i64 0, .int .i64 0] 73) = W2 at *
 have HB2 := Lib.hid hb2
 have HQ2 := Lib.hid hq2
 have HS2 := Lib.hid hs2
 have HB02 := Lib.hid (Aa HB1.out HB1.out.size HB2.out)
 have HX2 := Lib.hid (blk HB2.out HQ1.out)
 clear hb2 hq2 hs2 y0 y1 q0 q1 q2 q3 q4 r1 hM1
 obtain ⟨q0, q1, q2, q3, q4⟩ := AF HX2.out
 go_wp2_with fail
 go_ret
 exact ⟨HB02.out.mono HBW.out, rfl⟩
/- (*code.checker).step: OpStep; OpAnd, OpOr; OpFlag, OpJoin (printed by genck2.py). -/
theorem RE {m i : Nat} {h : HT} {ht : Int} {s : ST} {tg : Int} (hh : h (i : Int) = some ht) :
  (s.ok = false ∧ AE m ⟨1, s, tg⟩ i h = none) ∨ (s.ok = true ∧ decide (21 ≤ s.k) = true ∧ AE m ⟨1, s, tg⟩ i h = none) ∨ (s.ok = true ∧ decide (21 ≤ s.k) = false ∧ (tg == 0) = false ∧ AE m ⟨1, s, tg⟩ i h = none) ∨
  (s.ok = true ∧ decide (21 ≤ s.k) = false ∧ (tg == 0) = true ∧ decide (s.takes ≤ ht) = false ∧ AE m ⟨1, s, tg⟩ i h = none) ∨
  (s.ok = true ∧ decide (21 ≤ s.k) = false ∧ (tg == 0) = true ∧ decide (s.takes ≤ ht) = true ∧ AE m ⟨1, s, tg⟩ i h = if (AN h ((i : Int) + 1) (ht - s.takes + 1)).2 = true then some (AN h ((i : Int) + 1) (ht - s.takes + 1)).1 else none) := by
 unfold AE
 rw [hh]
 dsimp only
 rw [if_pos rfl]
 cases h1 : s.ok <;> cases h2 : decide (s.k < 21) <;> cases h3 : (tg == 0) <;> cases h4 : decide (s.takes ≤ ht)
 all_goals (first | (have h2 := of_decide_eq_false h2; have q : decide (21 ≤ s.k) = true := decide_eq_true (by omega)) | (have h2 := of_decide_eq_true h2; have q : decide (21 ≤ s.k) = false := decide_eq_false (by omega)))
 all_goals simp [q]
theorem Ql {m i : Nat} {h : HT} {ht o : Int} {k : Int} {t : ByteArray} {n tg : Int} (hh : h (i : Int) = some ht) (ho : o = 2 ∨ o = 4) (q : Int) (hq : q = if o = 2 then ht - 1 else ht) :
   (decide (tg ≤ (i : Int)) = true ∧ AE m ⟨o, ⟨k, t, n⟩, tg⟩ i h = none) ∨ (decide (tg ≤ (i : Int)) = false ∧ decide ((m : Int) < tg) = true ∧ AE m ⟨o, ⟨k, t, n⟩, tg⟩ i h = none) ∨ (decide (tg ≤ (i : Int)) = false ∧ decide ((m : Int) < tg) = false ∧
   (((AN h tg ht).2 = false ∧ AE m ⟨o, ⟨k, t, n⟩, tg⟩ i h = none) ∨ ((AN h tg ht).2 = true ∧
   (((k == 0) = false ∧ AE m ⟨o, ⟨k, t, n⟩, tg⟩ i h = none) ∨ ((k == 0) = true ∧ (t.toList == []) = false ∧ t.toList.isEmpty = false ∧ AE m ⟨o, ⟨k, t, n⟩, tg⟩ i h = none) ∨
   ((k == 0) = true ∧ (t.toList == []) = true ∧ t.toList.isEmpty = true ∧ (n == 0) = false ∧ AE m ⟨o, ⟨k, t, n⟩, tg⟩ i h = none) ∨
   ((k == 0) = true ∧ (t.toList == []) = true ∧ t.toList.isEmpty = true ∧ (n == 0) = true ∧ decide (1 ≤ ht) = false ∧ AE m ⟨o, ⟨k, t, n⟩, tg⟩ i h = none) ∨
   ((k == 0) = true ∧ (t.toList == []) = true ∧ t.toList.isEmpty = true ∧ (n == 0) = true ∧ decide (1 ≤ ht) = true ∧ AE m ⟨o, ⟨k, t, n⟩, tg⟩ i h = if (AN (AN h tg ht).1 ((i : Int) + 1) q).2 = true then some (AN (AN h tg ht).1 ((i : Int) + 1) q).1 else none))))) := by
 unfold AE
 rw [hh]
 dsimp only
 rw [if_neg (by omega), if_pos ho, ← hq]
 by_cases h1 : tg ≤ (i : Int)
 · have e : decide ((i : Int) < tg) = false := decide_eq_false (by omega)
   simp [h1, e]
 by_cases h2 : (m : Int) < tg
 · have e : decide (tg ≤ (m : Int)) = false := decide_eq_false (by omega)
   simp [h1, h2, e]
 have e1 : decide ((i : Int) < tg) = true := decide_eq_true (by omega)
 have e2 : decide (tg ≤ (m : Int)) = true := decide_eq_true (by omega)
 refine Or.inr (Or.inr ⟨decide_eq_false h1, decide_eq_false h2, ?_⟩)
 rw [e1, e2]
 unfold ER
 dsimp only
 cases h3 : (AN h tg ht).2 with
 | false => exact Or.inl ⟨rfl, rfl⟩
 | true =>
   refine Or.inr ⟨rfl, ?_⟩
   rcases G9 t with ⟨e3, e4⟩ | ⟨e3, e4⟩ <;> cases h5 : (k == 0) <;> cases h6 : (n == 0) <;> cases h7 : decide (1 ≤ ht) <;> simp [e3, e4]
theorem Qm {m i : Nat} {h : HT} {ht o need q : Int} {k : Int} {t : ByteArray} {n tg : Int} (hh : h (i : Int) = some ht) (ho : (o = 3 ∧ need = 1 ∧ ht = q) ∨ (o = 5 ∧ need = 2 ∧ ht - 1 = q)) :
  ((k == 0) = false ∧ AE m ⟨o, ⟨k, t, n⟩, tg⟩ i h = none) ∨ ((k == 0) = true ∧ (t.toList == []) = false ∧ t.toList.isEmpty = false ∧ AE m ⟨o, ⟨k, t, n⟩, tg⟩ i h = none) ∨
  ((k == 0) = true ∧ (t.toList == []) = true ∧ t.toList.isEmpty = true ∧ (n == 0) = false ∧ AE m ⟨o, ⟨k, t, n⟩, tg⟩ i h = none) ∨
  ((k == 0) = true ∧ (t.toList == []) = true ∧ t.toList.isEmpty = true ∧ (n == 0) = true ∧ (tg == 0) = false ∧ AE m ⟨o, ⟨k, t, n⟩, tg⟩ i h = none) ∨
  ((k == 0) = true ∧ (t.toList == []) = true ∧ t.toList.isEmpty = true ∧ (n == 0) = true ∧ (tg == 0) = true ∧ decide (need ≤ ht) = false ∧ AE m ⟨o, ⟨k, t, n⟩, tg⟩ i h = none) ∨
  ((k == 0) = true ∧ (t.toList == []) = true ∧ t.toList.isEmpty = true ∧ (n == 0) = true ∧ (tg == 0) = true ∧ decide (need ≤ ht) = true ∧ AE m ⟨o, ⟨k, t, n⟩, tg⟩ i h = if (AN h ((i : Int) + 1) q).2 = true then some (AN h ((i : Int) + 1) q).1 else none) := by
 have e : AE m ⟨o, ⟨k, t, n⟩, tg⟩ i h = if (ER ⟨k, t, n⟩ && tg == 0 && decide (need ≤ ht) && (AN h ((i : Int) + 1) q).2) = true then some (AN h ((i : Int) + 1) q).1 else none := by
  unfold AE
  rw [hh]
  dsimp only
  rcases ho with ⟨rfl, rfl, rfl⟩ | ⟨rfl, rfl, rfl⟩
  · rw [if_neg (by omega), if_neg (by omega), if_pos rfl]
  · rw [if_neg (by omega), if_neg (by omega), if_neg (by omega), if_pos rfl]
 rw [e]
 unfold ER
 dsimp only
 rcases G9 t with ⟨e3, e4⟩ | ⟨e3, e4⟩ <;> cases h5 : (k == 0) <;> cases h6 : (n == 0) <;> cases h7 : decide (need ≤ ht) <;> cases h8 : (tg == 0) <;> simp [e3, e4]
theorem IQ {B : Nat} {p : List IT} {P gm : Nat} {A : Option Addr} {c : Nat} {h : HT} {a v : Int} {w W w9 : World} (hb : Below B w W) (hBg : B ≤ gm) (hc : CkAt B p P gm A c h W) (hf : MapFr gm W w9) (hm : MapH w9 gm (AN h a v).1) :
   Eh B p P gm A c (if (AN h a v).2 = true then some (AN h a v).1 else none) w (.returned (.bool (AN h a v).2)) w9 := by
 have h1 := hb.trans (hf.below hBg)
 cases (AN h a v).2 with
 | true => exact ⟨h1, rfl, hc.come hf hm⟩
 | false => exact ⟨h1, rfl⟩
set_option maxHeartbeats 80000000 in
set_option maxRecDepth 100000 in
theorem Tc (B : Nat) (p : List IT) (P gm : Nat) (A : Option Addr) (c : Nat) (h : HT) (i : Nat) (hi : i < p.length) (hlen : p.length ≤ 256) (ht : Int)  (k : Int) (t : ByteArray) (n tg : Int) (hx : p[i] = ⟨1, ⟨k, t, n⟩, tg⟩) (hh : h (i : Int) = some ht) (ht0 : 0 ≤ ht) (ht1 : ht ≤ 100000) (hsz : t.size ≤ LIM) (w : World) (hL : Laid w) (hw : CkAt B p P gm A c h w) :
   Calls Tryz.prog 35 #[.pointer (some ⟨P, 0, none⟩), .int .i64 i] w (Eh B p P gm A c (AE p.length ⟨1, ⟨k, t, n⟩, tg⟩ i h) w) := by
 have hd := RE (m := p.length) (s := ⟨k, t, n⟩) (tg := tg) hh
 have htr := Bn ⟨k, t, n⟩
 obtain ⟨q, okb, hok, hq⟩ : ∃ (q : Int) (okb : Bool), (⟨k, t, n⟩ : ST).ok = okb ∧ AI k t n = .tuple #[.int .i64 q, .bool okb] ∧ (okb = true → q = (⟨k, t, n⟩ : ST).takes ∧ 0 ≤ q ∧ q ≤ 64) := by
   cases ho : (⟨k, t, n⟩ : ST).ok with
   | true => exact ⟨_, true, rfl, Df ⟨k, t, n⟩ ho, fun _ => ⟨rfl, htr ho⟩⟩
   | false => exact ⟨0, false, rfl, JM ⟨k, t, n⟩ ho, fun h => by cases h⟩
 obtain ⟨hq, hqt⟩ := hq
 rw [hok] at hd
 have htk := Dg k t n
 have HTK := Lib.hid (fun (w' : World) (hL : Laid w') => htk w' hsz hL)
 rw [hq] at HTK
 dsimp only at hd
 have HQT := Lib.hid hqt
 have HD := Lib.hid hd
 clear htk hok hq hqt htr hd
 have HW := Lib.hid hw
 have HL := Lib.hid hL
 obtain ⟨hP, hM, hne, hBg, hBP, hBw, hrow, hA⟩ := hw
 rcases hrow with h0 | ⟨b, ao, rfl, hin⟩
 · omega
 obtain ⟨x0, x1, x2, x3, x4⟩ := hin i hi
 rw [hx] at x0 x1 x2 x3 x4
 obtain ⟨y0, y1⟩ := AT hP
 have hpl : P < w.heap.size := lt_of_block hP
 have hgl := hM.lt
 have HP := Lib.hid hP
 have HM := Lib.hid hM
 have HBW := Lib.hid hBw
 have hb1 := Ad (w := w) (.cells #[.int .u8 1, .int .u8 k, .string t, .int .i64 n, .int .i64 tg] 73)
 have hq1 := Ab w (.cells #[.int .u8 1, .int .u8 k, .string t, .int .i64 n, .int .i64 tg] 73)
 have hs1 : (w.alloc (.cells #[.int .u8 1, .int .u8 k, .string t, .int .i64 n, .int .i64 tg] 73)).heap.size = w.heap.size + 1 := by simp
 have HH := Lib.hid hh
 clear hin hP hM hx hA hL hh
 go_enter Tryz.func35, Tryz.ntmps35
 go_upto_region 2 with (fail)
 generalize w.alloc (.cells #[.int .u8 1, .int .u8 k, .string t, .int .i64 n, .int .i64 tg] 73) = W1 at *
 have HB1 := Lib.hid hb1
 have HQ1 := Lib.hid hq1
 have HS1 := Lib.hid hs1
 clear x0 x1 x2 x3 x4 y0 y1 hb1 hq1 hs1
 have hM1 := HM.out.block (w' := W1) (HB1.out.block _ hgl)
 obtain ⟨y0, y1⟩ := AT (blk HB1.out HP.out)
 obtain ⟨q0, q1, q2, q3, q4⟩ := AF HQ1.out
 have r1 := De hM1 (i : Int)
 rw [HH.out] at r1
 go_upto_region 6 with (fail)
 have hb2 := Ad (w := W1) (.cells #[.int .u8 1, .int .u8 0, .string ⟨#[]⟩, .int .i64 0, .int .i64 0] 73)
 have hq2 := Ab W1 (.cells #[.int .u8 1, .int .u8 0, .string ⟨#[]⟩, .int .i64 0, .int .i64 0] 73)
 have hs2 : (W1.alloc (.cells #[.int .u8 1, .int .u8 0, .string ⟨#[]⟩, .int .i64 0, .int .i64 0] 73)).heap.size = W1.heap.size + 1 := by simp
 generalize W1.alloc (.cells #[.int .u8 1, .int .u8 0, .string ⟨#[]⟩, .int .i64 0, .int .i64 0] 73) = W2 at *
 have HB2 := Lib.hid hb2
 have HQ2 := Lib.hid hq2
 have HS2 := Lib.hid hs2
 have HB02 := Lib.hid (Aa HB1.out HB1.out.size HB2.out)
 have HX2 := Lib.hid (blk HB2.out HQ1.out)
 clear hb2 hq2 hs2 y0 y1 q0 q1 q2 q3 q4 r1 hM1
 obtain ⟨q0, q1, q2, q3, q4⟩ := AF HX2.out
 have HT2 := Lib.hid (HTK.out _ (HL.out.below HB02.out))
 go_upto_region 11 with (go_at_call 20; refine (HT2.out).mono ?_; rintro e w6 ⟨rfl, hb6⟩; have HB6 := Lib.hid hb6; clear hb6)
 clear q0 q1 q2 q3 q4
 obtain ⟨q0, q1, q2, q3, q4⟩ := AF (blk HB6.out HX2.out)
 obtain ⟨z0, z1, z2, z3, z4, z5⟩ := CC (blk HB6.out HQ2.out)
 have hz0 := blk HB6.out HQ2.out
 have lz : W1.heap.size < w6.heap.size := lt_of_block hz0
 have lw1 : w.heap.size < W1.heap.size := by have := HS1.out; omega
 go_upto_region 12 with (fail)
 have hz3 : (((w6.setCell ⟨W1.heap.size, 1, none⟩ (.int .u8 k)).setCell ⟨W1.heap.size, 2, none⟩ (.string t)).setCell ⟨W1.heap.size, 3, none⟩ (.int .i64 n)).heap[W1.heap.size]? = some (.cells #[.int .u8 1, .int .u8 k, .string t, .int .i64 n, .int .i64 0] 73 (0, 0)) := heap_setCell_same _ _ 3 _ _ _ (heap_setCell_same _ _ 2 _ _ _ (heap_setCell_same _ _ 1 _ _ _ hz0))
 have hb3 : Below W1.heap.size W1 (((w6.setCell ⟨W1.heap.size, 1, none⟩ (.int .u8 k)).setCell ⟨W1.heap.size, 2, none⟩ (.string t)).setCell ⟨W1.heap.size, 3, none⟩ (.int .i64 n)) := (((Aa HB2.out HB2.out.size HB6.out).setCell (p := ⟨W1.heap.size, 1, none⟩) (Nat.le_refl _) _).setCell (p := ⟨W1.heap.size, 2, none⟩) (Nat.le_refl _) _).setCell (p := ⟨W1.heap.size, 3, none⟩) (Nat.le_refl _) _
 generalize ((w6.setCell ⟨W1.heap.size, 1, none⟩ (.int .u8 k)).setCell ⟨W1.heap.size, 2, none⟩ (.string t)).setCell ⟨W1.heap.size, 3, none⟩ (.int .i64 n) = W3 at *
 have HB3 := Lib.hid hb3
 have HB03 := Lib.hid (Aa HB1.out HB1.out.size HB3.out)
 have HZ3 := Lib.hid hz3
 clear hz0 hz3 hb3 q0 q1 q2 q3 q4 z0 z1 z2 z3 z4 z5
 obtain ⟨q0, q1, q2, q3, q4⟩ := AF (blk HB3.out HQ1.out)
 obtain ⟨z0, z1, z2, z3, z4⟩ := AF HZ3.out
 have HCK := Lib.hid (CkAt.keep HW.out HB03.out)
 obtain ⟨y0, y1⟩ := AT HCK.out.1
 rcases HD.out with ⟨rfl, e⟩ | ⟨rfl, f2, e⟩ | ⟨rfl, f2, f3, e⟩ | ⟨rfl, f2, f3, f4, e⟩ | ⟨rfl, f2, f3, f4, e⟩
 all_goals clear HD
 iterate 4 (rotate_left 1)
 · obtain ⟨hq, hq0, hq1⟩ := HQT.out rfl
   rw [← hq] at f4 e
   have hlw : q ≤ ht := by simpa using f4
   have HE := Lib.hid e
   clear e hq
   have HCM := Lib.hid (fun v => DP P gm _ p.length c h ((i : Int) + 1) v W3 HCK.out.1 HCK.out.2.1)
   go_wp2_with (go_at_call 51; (with_reducible refine (HCM.out _).mono ?_); rintro e w9 ⟨rfl, hm9, hf9⟩; have HM9 := Lib.hid hm9; have HF9 := Lib.hid hf9; clear hm9 hf9)
   go_ret
   rw [HE.out]
   exact IQ (HB03.out.mono HBW.out) hBg HCK.out HF9.out HM9.out
 all_goals
   first | (obtain ⟨hq, hq0, hq1⟩ := HQT.out rfl; (first | rw [← hq] at f4 | skip); clear hq) | skip
   have HE := Lib.hid e
   clear e
   go_wp2_with fail
   go_ret
   rw [HE.out]
   exact ⟨HB03.out.mono HBW.out, rfl⟩
set_option maxHeartbeats 80000000 in
set_option maxRecDepth 100000 in
theorem SJ (B : Nat) (p : List IT) (P gm : Nat) (A : Option Addr) (c : Nat) (h : HT) (i : Nat) (hi : i < p.length) (hlen : p.length ≤ 256) (ht : Int) (o : Int) (ho : o = 2 ∨ o = 4) (k : Int) (t : ByteArray) (n tg : Int) (hx : p[i] = ⟨o, ⟨k, t, n⟩, tg⟩) (hh : h (i : Int) = some ht) (ht0 : 0 ≤ ht) (ht1 : ht ≤ 100000) (hsz : t.size ≤ LIM) (w : World) (hL : Laid w) (hw : CkAt B p P gm A c h w) :
   Calls Tryz.prog 35 #[.pointer (some ⟨P, 0, none⟩), .int .i64 i] w (Eh B p P gm A c (AE p.length ⟨o, ⟨k, t, n⟩, tg⟩ i h) w) := by
 obtain ⟨qq, hqq⟩ : ∃ x : Int, x = if o = 2 then ht - 1 else ht := ⟨_, rfl⟩
 have hd := Ql (m := p.length) (k := k) (t := t) (n := n) (tg := tg) hh ho qq hqq
 have o1 : (o == 1) = false := by simp; omega
 have o24 : ((o == 2) = true ∧ ht - 1 = qq) ∨ ((o == 2) = false ∧ (o == 4) = true ∧ ht = qq) := by
   rcases ho with rfl | rfl
   · exact Or.inl ⟨rfl, hqq.symm⟩
   · exact Or.inr ⟨rfl, rfl, hqq.symm⟩
 have HD := Lib.hid hd
 clear hd hqq ho
 have HW := Lib.hid hw
 have HL := Lib.hid hL
 obtain ⟨hP, hM, hne, hBg, hBP, hBw, hrow, hA⟩ := hw
 rcases hrow with h0 | ⟨b, ao, rfl, hin⟩
 · omega
 obtain ⟨x0, x1, x2, x3, x4⟩ := hin i hi
 rw [hx] at x0 x1 x2 x3 x4
 obtain ⟨y0, y1⟩ := AT hP
 have hpl : P < w.heap.size := lt_of_block hP
 have hgl := hM.lt
 have HP := Lib.hid hP
 have HM := Lib.hid hM
 have HBW := Lib.hid hBw
 have hb1 := Ad (w := w) (.cells #[.int .u8 o, .int .u8 k, .string t, .int .i64 n, .int .i64 tg] 73)
 have hq1 := Ab w (.cells #[.int .u8 o, .int .u8 k, .string t, .int .i64 n, .int .i64 tg] 73)
 have hs1 : (w.alloc (.cells #[.int .u8 o, .int .u8 k, .string t, .int .i64 n, .int .i64 tg] 73)).heap.size = w.heap.size + 1 := by simp
 have HH := Lib.hid hh
 clear hin hP hM hx hA hL hh
 go_enter Tryz.func35, Tryz.ntmps35
 go_upto_region 2 with (fail)
 generalize w.alloc (.cells #[.int .u8 o, .int .u8 k, .string t, .int .i64 n, .int .i64 tg] 73) = W1 at *
 have HB1 := Lib.hid hb1
 have HQ1 := Lib.hid hq1
 have HS1 := Lib.hid hs1
 clear x0 x1 x2 x3 x4 y0 y1 hb1 hq1 hs1
 have hM1 := HM.out.block (w' := W1) (HB1.out.block _ hgl)
 obtain ⟨y0, y1⟩ := AT (blk HB1.out HP.out)
 obtain ⟨q0, q1, q2, q3, q4⟩ := AF HQ1.out
 have r1 := De hM1 (i : Int)
 rw [HH.out] at r1
 go_upto_region 6 with (fail)
 have hb2 := Ad (w := W1) (.cells #[.int .u8 o, .int .u8 0, .string ⟨#[]⟩, .int .i64 0, .int .i64 0] 73)
 have hq2 := Ab W1 (.cells #[.int .u8 o, .int .u8 0, .string ⟨#[]⟩, .int .i64 0, .int .i64 0] 73)
 have hs2 : (W1.alloc (.cells #[.int .u8 o, .int .u8 0, .string ⟨#[]⟩, .int .i64 0, .int .i64 0] 73)).heap.size = W1.heap.size + 1 := by simp
 generalize W1.alloc (.cells #[.int .u8 o, .int .u8 0, .string ⟨#[]⟩, .int .i64 0, .int .i64 0] 73) = W2 at *
 have HB2 := Lib.hid hb2
 have HQ2 := Lib.hid hq2
 have HS2 := Lib.hid hs2
 have HB02 := Lib.hid (Aa HB1.out HB1.out.size HB2.out)
 have HX2 := Lib.hid (blk HB2.out HQ1.out)
 clear hb2 hq2 hs2 y0 y1 q0 q1 q2 q3 q4 r1 hM1
 obtain ⟨q0, q1, q2, q3, q4⟩ := AF HX2.out
 obtain ⟨z0, z1, z2, z3, z4, z5⟩ := CC HQ2.out
 have lz : W1.heap.size < W2.heap.size := lt_of_block HQ2.out
 have lw1 : w.heap.size < W1.heap.size := by have := HS1.out; omega
 rcases o24 with ⟨o2, rfl⟩ | ⟨o2, o4, rfl⟩
 all_goals
   go_upto_region 18 with (fail)
   have hz3 : (W2.setCell ⟨W1.heap.size, 4, none⟩ (.int .i64 tg)).heap[W1.heap.size]? = some (.cells #[.int .u8 o, .int .u8 0, .string ⟨#[]⟩, .int .i64 0, .int .i64 tg] 73 (0, 0)) := heap_setCell_same _ _ 4 _ _ _ HQ2.out
   have hb3 : Below W1.heap.size W1 (W2.setCell ⟨W1.heap.size, 4, none⟩ (.int .i64 tg)) := HB2.out.setCell (p := ⟨W1.heap.size, 4, none⟩) (Nat.le_refl _) _
   generalize W2.setCell ⟨W1.heap.size, 4, none⟩ (.int .i64 tg) = W3 at *
   have HB3 := Lib.hid hb3
   have HB03 := Lib.hid (Aa HB1.out HB1.out.size HB3.out)
   have HZ3 := Lib.hid hz3
   clear hz3 hb3 q0 q1 q2 q3 q4 z0 z1 z2 z3 z4 z5
   obtain ⟨q0, q1, q2, q3, q4⟩ := AF (blk HB3.out HQ1.out)
   go_upto_region 20 with (fail)
   have hck3 := CkAt.keep HW.out HB03.out
   have HCK3 := Lib.hid hck3
   clear hck3 q0 q1 q2 q3 q4
   have HB03D := Lib.hid (Below.drew HB03.out)
   have hckd : CkAt B p P gm _ c h W3.drew := CkAt.keep HW.out HB03D.out
   obtain ⟨y0, y1⟩ := AT hckd.1
   have HCKD := Lib.hid hckd
   obtain ⟨q0, q1, q2, q3, q4⟩ := AF (blk (Below.drew HB3.out) HQ1.out)
   clear hckd
   rcases HD.out with ⟨f1, e⟩ | ⟨f1, f2, e⟩ | ⟨f1, f2, hdd⟩
   all_goals clear HD
   iterate 2 (rotate_left 1)
   · have HDD := Lib.hid hdd
     clear hdd
     have HCM1 := Lib.hid (DP P gm _ p.length c h tg ht W3.drew HCKD.out.1 HCKD.out.2.1)
     refine Bg 19 3 #[true, true, true, true, true, true, true, true, true, true, true, true, true, true, true, true, true, true, true, false, false, false] (fun w' => w' = W3.drew) (by kernel_rfl) (by simp only [List.take_succ_cons, List.take_zero]; rfl) (by kernel_rfl) (by kernel_rfl) (by kernel_rfl) ?_ ?_
     · rfl
     repeat
       first
       | go_big_quiet_skip
       | go_big_quiet_want
         apply Exists.intro
         refine ⟨fun wq hC => ?_, ?_⟩
         · subst hC
           unfold Oper.quietAt
           go_simp
           first
           | rfl
           | exact ⟨rfl, rfl⟩
         (try simp only [Act.put, List.setIfInBounds_toArray, List.set_cons_zero, List.set_cons_succ])
         go_big_quiet_on
     refine wpQuiet_nil ?_
     rintro wy rfl
     refine Bl 19 _ (by kernel_rfl) (by rfl) (by rfl) (fun K hK => ?_)
     go_simp
     refine (HCM1.out).mono ?_
     rintro e w8 ⟨rfl, hm8, hf8⟩
     have HM8 := Lib.hid hm8
     have HF8 := Lib.hid hf8
     clear hm8 hf8
     refine hK _ _ ?_
     clear hK K
     refine Bl 20 _ (by kernel_rfl) (by rfl) (by rfl) (fun K hK => ?_)
     go_simp
     refine hK _ _ ?_
     clear hK K
     refine Bl 21 _ (by kernel_rfl) (by rfl) (by rfl) (fun K hK => ?_)
     go_simp
     refine hK _ _ ?_
     clear hK K
     refine Dh (by kernel_rfl) ?_
     rcases HDD.out with ⟨f3, e⟩ | ⟨f3, hd3⟩
     · have HE := Lib.hid e
       clear e HDD
       rw [f3]
       clear f3
       go_wp2_with fail
       go_ret
       rw [HE.out]
       exact ⟨(HB03D.out.mono HBW.out).trans (HF8.out.below hBg), rfl⟩
     · rw [f3]
       clear f3 HDD
       have HCK := Lib.hid (HCKD.out.come HF8.out HM8.out)
       clear y0 y1 q0 q1 q2 q3 q4
       obtain ⟨y0, y1⟩ := AT HCK.out.1
       obtain ⟨q0, q1, q2, q3, q4⟩ := AF ((HF8.out.block (b := w.heap.size) (by omega)).trans (blk (Below.drew HB3.out) HQ1.out))
       obtain ⟨z0, z1, z2, z3, z4⟩ := AF ((HF8.out.block (b := W1.heap.size) (by omega)).trans (show W3.drew.heap[_]? = _ from HZ3.out))
       rcases hd3 with ⟨g1, e⟩ | ⟨g1, g2, g3, e⟩ | ⟨g1, g2, g3, g4, e⟩ | ⟨g1, g2, g3, g4, g5, e⟩ | ⟨g1, g2, g3, g4, g5, e⟩
       iterate 4 (rotate_left 1)
       · have hlw : 1 ≤ ht := by simpa using g5
         have HE := Lib.hid e
         clear e
         have HCM := Lib.hid (fun v => DP P gm _ p.length c (AN h tg ht).1 ((i : Int) + 1) v w8 HCK.out.1 HCK.out.2.1)
         go_wp2_with (go_at_call 51; (with_reducible refine (HCM.out _).mono ?_); rintro e w9 ⟨rfl, hm9, hf9⟩; have HM9 := Lib.hid hm9; have HF9 := Lib.hid hf9; clear hm9 hf9)
         go_ret
         rw [HE.out]
         exact IQ ((HB03D.out.mono HBW.out).trans (HF8.out.below hBg)) hBg HCK.out HF9.out HM9.out
       all_goals
         have HE := Lib.hid e
         clear e
         go_wp2_with fail
         go_ret
         rw [HE.out]
         exact ⟨(HB03D.out.mono HBW.out).trans (HF8.out.below hBg), rfl⟩
   all_goals
     have HE := Lib.hid e
     clear e
     have y0' := (show W3.cell? _ = _ from y0)
     have y1' := (show W3.cell? _ = _ from y1)
     have q2' := (show W3.cell? ⟨w.heap.size, 2, none⟩ = _ from q2)
     have q4' := (show W3.cell? ⟨w.heap.size, 4, none⟩ = _ from q4)
     go_quiet (fail)
     have HBQ := Lib.hid (Aa HB03.out HB03.out.size (Al W3 nq))
     generalize W3.drewN nq = W4 at *
     go_wp2_with fail
     go_ret
     rw [HE.out]
     exact ⟨HBQ.out.mono HBW.out, rfl⟩
set_option maxHeartbeats 80000000 in
set_option maxRecDepth 100000 in
theorem QE (B : Nat) (p : List IT) (P gm : Nat) (A : Option Addr) (c : Nat) (h : HT) (i : Nat) (hi : i < p.length) (hlen : p.length ≤ 256) (ht : Int) (o need qq : Int) (ho : (o = 3 ∧ need = 1 ∧ ht = qq) ∨ (o = 5 ∧ need = 2 ∧ ht - 1 = qq)) (k : Int) (t : ByteArray) (n tg : Int) (hx : p[i] = ⟨o, ⟨k, t, n⟩, tg⟩) (hh : h (i : Int) = some ht) (ht0 : 0 ≤ ht) (ht1 : ht ≤ 100000) (hsz : t.size ≤ LIM) (w : World) (hL : Laid w) (hw : CkAt B p P gm A c h w) :
   Calls Tryz.prog 35 #[.pointer (some ⟨P, 0, none⟩), .int .i64 i] w (Eh B p P gm A c (AE p.length ⟨o, ⟨k, t, n⟩, tg⟩ i h) w) := by
 have hd := Qm (m := p.length) (k := k) (t := t) (n := n) (tg := tg) hh ho
 have HD := Lib.hid hd
 clear hd
 have HW := Lib.hid hw
 have HL := Lib.hid hL
 obtain ⟨hP, hM, hne, hBg, hBP, hBw, hrow, hA⟩ := hw
 rcases hrow with h0 | ⟨b, ao, rfl, hin⟩
 · omega
 obtain ⟨x0, x1, x2, x3, x4⟩ := hin i hi
 rw [hx] at x0 x1 x2 x3 x4
 obtain ⟨y0, y1⟩ := AT hP
 have hpl : P < w.heap.size := lt_of_block hP
 have hgl := hM.lt
 have HP := Lib.hid hP
 have HM := Lib.hid hM
 have HBW := Lib.hid hBw
 have hb1 := Ad (w := w) (.cells #[.int .u8 o, .int .u8 k, .string t, .int .i64 n, .int .i64 tg] 73)
 have hq1 := Ab w (.cells #[.int .u8 o, .int .u8 k, .string t, .int .i64 n, .int .i64 tg] 73)
 have hs1 : (w.alloc (.cells #[.int .u8 o, .int .u8 k, .string t, .int .i64 n, .int .i64 tg] 73)).heap.size = w.heap.size + 1 := by simp
 have HH := Lib.hid hh
 clear hin hP hM hx hA hL hh
 go_enter Tryz.func35, Tryz.ntmps35
 go_upto_region 2 with (fail)
 generalize w.alloc (.cells #[.int .u8 o, .int .u8 k, .string t, .int .i64 n, .int .i64 tg] 73) = W1 at *
 have HB1 := Lib.hid hb1
 have HQ1 := Lib.hid hq1
 have HS1 := Lib.hid hs1
 clear x0 x1 x2 x3 x4 y0 y1 hb1 hq1 hs1
 have hM1 := HM.out.block (w' := W1) (HB1.out.block _ hgl)
 obtain ⟨y0, y1⟩ := AT (blk HB1.out HP.out)
 obtain ⟨q0, q1, q2, q3, q4⟩ := AF HQ1.out
 have r1 := De hM1 (i : Int)
 rw [HH.out] at r1
 go_upto_region 6 with (fail)
 have hb2 := Ad (w := W1) (.cells #[.int .u8 o, .int .u8 0, .string ⟨#[]⟩, .int .i64 0, .int .i64 0] 73)
 have hq2 := Ab W1 (.cells #[.int .u8 o, .int .u8 0, .string ⟨#[]⟩, .int .i64 0, .int .i64 0] 73)
 have hs2 : (W1.alloc (.cells #[.int .u8 o, .int .u8 0, .string ⟨#[]⟩, .int .i64 0, .int .i64 0] 73)).heap.size = W1.heap.size + 1 := by simp
 generalize W1.alloc (.cells #[.int .u8 o, .int .u8 0, .string ⟨#[]⟩, .int .i64 0, .int .i64 0] 73) = W2 at *
 have HB2 := Lib.hid hb2
 have HQ2 := Lib.hid hq2
 have HS2 := Lib.hid hs2
 have HB02 := Lib.hid (Aa HB1.out HB1.out.size HB2.out)
 have HX2 := Lib.hid (blk HB2.out HQ1.out)
 clear hb2 hq2 hs2 y0 y1 q0 q1 q2 q3 q4 r1 hM1
 have HCK := Lib.hid (CkAt.keep HW.out HB02.out)
 obtain ⟨y0, y1⟩ := AT HCK.out.1
 obtain ⟨q0, q1, q2, q3, q4⟩ := AF HX2.out
 obtain ⟨z0, z1, z2, z3, z4⟩ := AF HQ2.out
 rcases ho with ⟨rfl, rfl, rfl⟩ | ⟨rfl, rfl, rfl⟩
 all_goals
   rcases HD.out with ⟨g1, e⟩ | ⟨g1, g2, g3, e⟩ | ⟨g1, g2, g3, g4, e⟩ | ⟨g1, g2, g3, g4, g5, e⟩ | ⟨g1, g2, g3, g4, g5, g6, e⟩ | ⟨g1, g2, g3, g4, g5, g6, e⟩
   all_goals clear HD
   iterate 5 (rotate_left 1)
   · have hlw := of_decide_eq_true g6
     have HE := Lib.hid e
     clear e
     have HCM := Lib.hid (fun v => DP P gm _ p.length c h ((i : Int) + 1) v W2 HCK.out.1 HCK.out.2.1)
     go_wp2_with (go_at_call 51; (with_reducible refine (HCM.out _).mono ?_); rintro e w9 ⟨rfl, hm9, hf9⟩; have HM9 := Lib.hid hm9; have HF9 := Lib.hid hf9; clear hm9 hf9)
     go_ret
     rw [HE.out]
     exact IQ (HB02.out.mono HBW.out) hBg HCK.out HF9.out HM9.out
   all_goals
     have HE := Lib.hid e
     clear e
     go_wp2_with fail
     go_ret
     rw [HE.out]
     exact ⟨HB02.out.mono HBW.out, rfl⟩
end Go.Proofs.YtbemgcjckchdjaaGreatDoor
