import Derived.Test.YtbemgcjckchdjaaGreatDoorLAa
import Derived.Test.YtbemgcjckchdjaaGreatDoorLVa
/- vm's machine: its block, its stack; append onto a full row; flag, own. -/
namespace Go.Proofs.YtbemgcjckchdjaaGreatDoor
open Go.RowKit
set_option linter.unusedSimpArgs false
set_option linter.unusedVariables false
theorem Id {P : Program} {w : World} {ops : Array Oper} {o : Oper} {a : Act} {K : Act → World → Prop} {Q : Exit → Act → World → Prop} {E : Prop} (hgd : o.guard = none) (s x : Operand) (t : TypeId)
   (ho : o.op = .call { callee := .builtin .append, args := #[s, x], argTypes := #[t, t] })
   (e : TypeId) (i : TypeInfo) (z : Value) (size bytes : Nat) (ht : P.underlying t = some (.slice e)) (hi : P.info? e = some i) (hz : i.zero = some z)
   (hsize : i.size = size) (hby : i.bytes = bytes) (hzs : z.cells.size = size)
   (n : Nat) (S : Option Addr) (olds : List Value) (hs : a.eval s = .slice S n n) (hlo : olds.length = n * size) (holds : n = 0 ∧ S = none ∨ ∃ b, S = some b ∧ ∀ j v, olds[j]? = some v → w.cell? (b.add j) = some v)
   (ad : Addr) (c : Nat) (news : List Value) (hx : a.eval x = .slice (some ad) 1 c) (hl : news.length = size) (hnews : ∀ j u, news[j]? = some u → w.cell? (ad.add j) = some u)
   (h63 : n + 1 ≤ maxLen) (hbytes : (n + 1) * bytes ≤ 140737488355328)
   (h : ∀ cap (cur : Array Value), n + 1 ≤ cap → cap ≤ maxLen → cur.size = cap * size → cur.toList.take ((n + 1) * size) = olds ++ news → K (a.put o.dst (.slice (some ⟨w.heap.size, 0, none⟩) (n + 1) cap)) (w.drew.alloc (.cells cur e))) :
   if Region.wanted o (yielded ops a.tmps) = true then Oper.wp P o a w K Q else E := by
 have hw : Region.wanted o (yielded ops a.tmps) = true := by simp [Region.wanted, hgd]
 rw [if_pos hw]
 subst hsize hby
 have hsm : n + 1 ≤ 9223372036854775807 := by unfold maxLen at h63; omega
 have hge := grownCap_ge w (n + 1) n e
 have hcm : grownCap w (n + 1) n e ≤ maxLen := grownCap_le_maxLen w (n + 1) n e h63
 have key : (Builtin.append_ #[t, t] o.type #[.slice S n n, .slice (some ad) 1 c]).run P w = .ok (.slice (some ⟨w.heap.size, 0, none⟩) (n + 1) (grownCap w (n + 1) n e)) (w.drew.alloc (.cells (olds.toArray ++ news.toArray ++ Builtin.zeroCells z.cells (grownCap w (n + 1) n e - (n + 1))) e)) := by
   rcases holds with ⟨rfl, rfl⟩ | ⟨b, rfl, hb⟩
   · have ho0 : olds = [] := List.eq_nil_of_length_eq_zero (by simpa using hlo)
     subst ho0
     have := run_append_nil (P := P) w t o.type e i z ht hi hz ad 1 c news (by simpa using hl) hnews (by omega) (by omega) (by have := hbytes; omega)
     simpa using this
   · exact run_append_grow (P := P) w t o.type e i z ht hi hz b n n olds hlo hb ad 1 c news (by simpa using hl) hnews (by omega) (by omega) (growslice_fits (by omega) hbytes)
 unfold Oper.wp execOp
 simp only [ho, resolve, invoke, builtin, Sem.run_bind, Sem.run_pure, Result.andThen_ok, List.map_toArray, List.map_cons, List.map_nil, hs, hx, key]
 refine h _ _ hge hcm ?_ ?_
 · simp only [Array.size_append, List.size_toArray, size_zeroCells, hzs, hlo, hl]
   rw [← Nat.succ_mul, ← Nat.add_mul]
   congr 1
   omega
 · simp only [Array.toList_append, List.append_assoc]
   rw [← List.append_assoc]
   have : (n + 1) * i.size = (olds ++ news).length := by rw [List.length_append, hlo, hl, Nat.succ_mul]
   rw [this]
   exact List.take_left
def MFr (M : Nat) (w w' : World) : Prop := w'.tape = w.tape ∧ w'.os = w.os ∧ w'.output = w.output ∧ w.heap.size ≤ w'.heap.size ∧ ∀ b, b < w.heap.size → b ≠ M → w'.heap[b]? = w.heap[b]?
theorem MFr.of_below {M : Nat} {w w' : World} (h : Below w.heap.size w w') : MFr M w w' := ⟨h.tape, h.os, h.output, h.size, fun b hb _ => h.block b hb⟩
theorem MFr.refl (M : Nat) (w : World) : MFr M w w := ⟨rfl, rfl, rfl, Nat.le_refl _, fun _ _ _ => rfl⟩
theorem MFr.trans {M : Nat} {w w1 w2 : World} (h : MFr M w w1) (k : MFr M w1 w2) : MFr M w w2 :=
 ⟨k.1.trans h.1, k.2.1.trans h.2.1, k.2.2.1.trans h.2.2.1, Nat.le_trans h.2.2.2.1 k.2.2.2.1, fun b hb hne => (k.2.2.2.2 b (Nat.lt_of_lt_of_le hb h.2.2.2.1) hne).trans (h.2.2.2.2 b hb hne)⟩
theorem MFr.below {M B : Nat} {w w' : World} (h : MFr M w w') (hB : B ≤ M) (hM : M < w.heap.size) : Below B w w' := ⟨h.2.1, h.1, h.2.2.1, h.2.2.2.1, fun b hb => h.2.2.2.2 b (by omega) (by omega)⟩
theorem MFr.size {M : Nat} {w w' : World} (h : MFr M w w') : w.heap.size ≤ w'.heap.size := h.2.2.2.1
theorem MFr.block {M b : Nat} {w w' : World} (h : MFr M w w') (hb : b < w.heap.size) (hne : b ≠ M) : w'.heap[b]? = w.heap[b]? := h.2.2.2.2 b hb hne
theorem MFr.blk {M b : Nat} {w w' : World} {o : Obj} (h : MFr M w w') (hne : b ≠ M) (hx : w.heap[b]? = some o) : w'.heap[b]? = some o := (h.block (lt_of_block hx) hne).trans hx
theorem MFr.same {M lo : Nat} {w w' : World} (h : MFr M w w') : ∀ b o, lo ≤ b → M < lo → b < w.heap.size → w'.cell? ⟨b, o, none⟩ = w.cell? ⟨b, o, none⟩ := fun b o h1 h2 h3 => World.cell?_of_block (a := ⟨b, o, none⟩) (h.block (b := b) h3 (by omega))
theorem MFr.cellM {M : Nat} {w w' : World} (h : MFr M w w') {v : Value} {o : Nat} : MFr M w (w'.setCell ⟨M, o, none⟩ v) :=
 ⟨h.1, h.2.1, h.2.2.1, by simpa [World.setCell] using h.2.2.2.1, fun b hb hne => (Below.heap_setCell _ _ _ _ hne).trans (h.2.2.2.2 b hb hne)⟩
theorem RV.mfr {M : Nat} {w w' : World} {t : VT} {cs : List Value} (hv : RV w (M + 1) w.heap.size t cs) (h : MFr M w w') : RV w' (M + 1) w'.heap.size t cs :=
 RQ.to_rv (fun b hb => ⟨hb.1, Nat.lt_of_lt_of_le hb.2 h.size⟩) t cs (RQ.keep (Q := fun b => M + 1 ≤ b ∧ b < w.heap.size) (fun b o hq => h.same (lo := M + 1) b o hq.1 (by omega) hq.2) (fun _ h => h) t cs (RQ.of_rv t cs hv))
theorem RL.mfr {M : Nat} {w w' : World} {l : VL} {b o : Nat} (hv : RL w (M + 1) w.heap.size l b o) (hb : M < b) (hl : b < w.heap.size) (h : MFr M w w') : RL w' (M + 1) w'.heap.size l b o :=
 RQL.to_rv (fun b hb => ⟨hb.1, Nat.lt_of_lt_of_le hb.2 h.size⟩) l b o (RQL.keep (Q := fun b => M + 1 ≤ b ∧ b < w.heap.size) (fun b o hq => h.same (lo := M + 1) b o hq.1 (by omega) hq.2) (fun _ h => h) l b o ⟨hb, hl⟩ (RQL.of_rv l b o hv))
theorem RV.mfrh {M hi : Nat} {w w' : World} {t : VT} {cs : List Value} (hv : RV w (M + 1) hi t cs) (hh : hi ≤ w.heap.size) (h : MFr M w w') : RV w' (M + 1) hi t cs :=
 RQ.to_rv (fun b hb => hb) t cs (RQ.keep (Q := fun b => M + 1 ≤ b ∧ b < hi) (fun b o hq => h.same (lo := M + 1) b o hq.1 (by omega) (by have := hq.2; omega)) (fun _ h => h) t cs (RQ.of_rv t cs hv))
theorem RL.mfrh {M hi : Nat} {w w' : World} {l : VL} {b o : Nat} (hv : RL w (M + 1) hi l b o) (hh : hi ≤ w.heap.size) (hb : M < b) (hl : b < hi) (h : MFr M w w') : RL w' (M + 1) hi l b o :=
 RQL.to_rv (fun b hb => hb) l b o (RQL.keep (Q := fun b => M + 1 ≤ b ∧ b < hi) (fun b o hq => h.same (lo := M + 1) b o hq.1 (by omega) (by have := hq.2; omega)) (fun _ h => h) l b o ⟨hb, hl⟩ (RQL.of_rv l b o hv))
def StkRow (M hi : Nat) (w : World) (vs : List VT) (A : Option Addr) (c : Nat) : Prop := vs.length ≤ c ∧ hi ≤ w.heap.size ∧ (A = none ∧ vs.length = 0 ∧ c = 0 ∨ ∃ b, A = some ⟨b, 0, none⟩ ∧ M < b ∧ b < hi ∧ RL w (M + 1) hi (Au vs) b 0)
theorem StkRow.mfr {M hi : Nat} {w w' : World} {vs : List VT} {A : Option Addr} {c : Nat} (h : StkRow M hi w vs A c) (hf : MFr M w w') : StkRow M hi w' vs A c := by
 obtain ⟨h1, hh, h2⟩ := h
 refine ⟨h1, Nat.le_trans hh hf.size, ?_⟩
 rcases h2 with h2 | ⟨b, e, hM, hl, hr⟩
 · exact Or.inl h2
 · exact Or.inr ⟨b, e, hM, hl, RL.mfrh hr hh hM hl hf⟩
def Mach (M hi : Nat) (w : World) (row : VT) (vs : List VT) (c : Nat) (fuel next : Int) : Prop :=
 ∃ A r0 r1 r2 r3 r4 r5, w.heap[M]? = some (.cells #[.slice A vs.length c, r0, r1, r2, r3, r4, r5, .int .i64 fuel, .int .i64 next] 78 (0, 0)) ∧ RV w 0 M row [r0, r1, r2, r3, r4, r5] ∧ StkRow M hi w vs A c
theorem Mach.lt {M hi : Nat} {w : World} {row : VT} {vs : List VT} {c : Nat} {f n : Int} (h : Mach M hi w row vs c f n) : M < w.heap.size := by
 obtain ⟨_, _, _, _, _, _, _, h1, _⟩ := h
 exact lt_of_block h1
theorem Mach.keep {M hi : Nat} {w w' : World} {row : VT} {vs : List VT} {c : Nat} {f n : Int} (h : Mach M hi w row vs c f n) (hb : Below w.heap.size w w') : Mach M hi w' row vs c f n := by
 have hl := h.lt
 obtain ⟨A, r0, r1, r2, r3, r4, r5, h1, h2, h3⟩ := h
 exact ⟨A, r0, r1, r2, r3, r4, r5, Go.Proofs.YtbemgcjckchdjaaGreatDoor.blk hb h1, RV.keep (fun b o hb' => Same.of_below hb b o (by omega)) (Nat.le_refl _) (Nat.le_refl _) _ _ h2, h3.mfr (MFr.of_below hb)⟩
theorem Ei {w : World} {b : Nat} {v0 v1 v2 v3 v4 v5 v6 v7 v8 : Value} {T : TypeId} (h : w.heap[b]? = some (.cells #[v0, v1, v2, v3, v4, v5, v6, v7, v8] T (0, 0))) :
  w.cell? ⟨b, 0, none⟩ = some v0 ∧ w.cell? ⟨b, 1, none⟩ = some v1 ∧ w.cell? ⟨b, 2, none⟩ = some v2 ∧ w.cell? ⟨b, 3, none⟩ = some v3 ∧ w.cell? ⟨b, 4, none⟩ = some v4 ∧ w.cell? ⟨b, 5, none⟩ = some v5 ∧ w.cell? ⟨b, 6, none⟩ = some v6 ∧ w.cell? ⟨b, 7, none⟩ = some v7 ∧ w.cell? ⟨b, 8, none⟩ = some v8 ∧ (∀ o, w.frozen? ⟨b, o, none⟩ = false) := by
 simp [World.cell?, World.frozen?, h]
def OX (w : World) (y : Int) (e : Ending) (w' : World) : Prop := e = .returned (.int .i64 y) ∧ Below w.heap.size w w'
set_option maxHeartbeats 1000000 in
set_option maxRecDepth 100000 in
theorem Bo (t : VT) (v0 v1 v2 v3 v4 v5 : Value) (w : World) (hv : RV w 0 w.heap.size t [v0, v1, v2, v3, v4, v5]) : Calls Tryz.prog 37 #[.agg #[v0, v1, v2, v3, v4, v5]] w (OX w (Bf t)) := by
 obtain ⟨k, b, n, s, l, f, a1, c1, a2, c2, rfl, e, _⟩ := RV.mk_parts hv
 simp only [List.cons.injEq, and_true] at e
 obtain ⟨rfl, rfl, rfl, rfl, rfl, rfl⟩ := e
 clear hv
 have HB := Lib.hid (Ad (w := w) (.cells #[.int .u8 k, .bool b, .int .i64 n, .string s, .slice a1 l.len c1, .slice a2 f.len c2] 27))
 by_cases hk : 1 < k
 · have d : decide (1 < k) = true := decide_eq_true hk
   have HF : Hid (Bf (.mk k b n s l f) = 5) := Lib.hid (if_pos hk)
   clear hk
   go_enter Tryz.func37, Tryz.ntmps37
   go_wp2_with fail
   go_ret
   exact ⟨by rw [HF.out]; rfl, HB.out⟩
 · have d : decide (1 < k) = false := decide_eq_false hk
   have HF : Hid (Bf (.mk k b n s l f) = 0) := Lib.hid (if_neg hk)
   clear hk
   go_enter Tryz.func37, Tryz.ntmps37
   go_wp2_with fail
   go_ret
   exact ⟨by rw [HF.out]; rfl, HB.out⟩
/- vm's stack: pop, top. -/
theorem RL.drop {w : World} {lo hi : Nat} : ∀ (vs : List VT) (b o i : Nat), RL w lo hi (Au vs) b o → RL w lo hi (Au (vs.drop i)) b (o + i * 6)
 | vs, b, o, 0, h => by simpa using h
 | [], b, o, i + 1, h => by simp [Au, RL]
 | v :: r, b, o, i + 1, h => by
   unfold Au RL at h
   have := RL.drop r b (o + 6) i h.2
   rw [show o + (i + 1) * 6 = o + 6 + i * 6 by omega]
   exact this
theorem RL.take {w : World} {lo hi : Nat} : ∀ (vs : List VT) (b o i : Nat), RL w lo hi (Au vs) b o → RL w lo hi (Au (vs.take i)) b o
 | vs, b, o, 0, h => by simp [Au, RL]
 | [], b, o, i + 1, h => by simp [Au, RL]
 | v :: r, b, o, i + 1, h => by
   show RL w lo hi (Au (v :: r.take i)) b o
   unfold Au RL at h ⊢
   exact ⟨h.1, RL.take r b (o + 6) i h.2⟩
def IL (M hi : Nat) (row : VT) (vs : List VT) (f nx : Int) (k : Nat) (w : World) (e : Ending) (w' : World) : Prop :=
 ∃ A' c', e = .returned (.slice A' k c') ∧ k ≤ c' ∧ RowX (M + 1) hi w' (vs.drop (vs.length - k)) A' ∧ Mach M hi w' row (vs.take (vs.length - k)) (vs.length - k) f nx ∧ MFr M w w' ∧ (∀ o, 0 < o → w'.cell? ⟨M, o, none⟩ = w.cell? ⟨M, o, none⟩)
theorem Jn {M : Nat} {w : World} {v : Value} (o : Nat) (h : 0 < o) : (w.setCell ⟨M, 0, none⟩ v).cell? ⟨M, o, none⟩ = w.cell? ⟨M, o, none⟩ :=
 World.cell?_setCells_out M [v] 0 w ⟨M, o, none⟩ (fun _ _ => Or.inr (by simp; omega))
set_option maxHeartbeats 1000000 in
set_option maxRecDepth 100000 in
theorem Gr (M hi : Nat) (row : VT) (vs : List VT) (c : Nat) (f nx : Int) (k : Nat) (w : World) (hM : Mach M hi w row vs c f nx) (hk : k ≤ vs.length) (hlen : vs.length ≤ 1000) (hc : c ≤ maxLen) :
   Calls Tryz.prog 69 #[.pointer (some ⟨M, 0, none⟩), .int .i64 k] w (IL M hi row vs f nx k w) := by
 have hml := hM.lt
 obtain ⟨A, r0, r1, r2, r3, r4, r5, hB, hr, hlc, hhi, hst⟩ := hM
 obtain ⟨at', hat⟩ : ∃ at' : Nat, vs.length = at' + k := ⟨vs.length - k, by omega⟩
 obtain ⟨r, rfl⟩ : ∃ r, c = at' + r := ⟨c - at', by omega⟩
 have HAT : Hid (vs.length - k = at') := Lib.hid (by omega)
 have HVL := Lib.hid hat
 have HHI := Lib.hid hhi
 have HR := Lib.hid hr
 have HB := Lib.hid hB
 rw [hat] at hB hlc hlen
 unfold maxLen at hc
 rcases hst with ⟨rfl, h0, hc0⟩ | ⟨b, rfl, hMb, hbl, hrl⟩
 · obtain rfl : at' = 0 := by omega
   obtain rfl : k = 0 := by omega
   obtain rfl : r = 0 := by omega
   have hvs := List.length_eq_zero_iff.1 h0
   subst hvs
   obtain ⟨y0, y1, y2, y3, y4, y5, y6, y7, y8, y9⟩ := Ei hB
   clear hB hr h0 hc0 hat hhi
   go_enter Tryz.func69, Tryz.ntmps69
   go_wp2_with fail
   go_ret
   refine ⟨none, 0, rfl, Nat.le_refl _, Or.inl rfl, ⟨none, r0, r1, r2, r3, r4, r5, heap_setCell_same _ _ 0 _ _ _ HB.out, ?_, Nat.le_refl _, by have := ((MFr.refl M w).cellM (v := .slice none 0 0) (o := 0)).size; exact Nat.le_trans HHI.out this, Or.inl ⟨rfl, rfl, rfl⟩⟩, (MFr.refl M w).cellM, Jn⟩
   exact RV.keep (fun b o hb => World.cell?_of_block (a := ⟨b, o, none⟩) (Below.heap_setCell _ _ _ _ (by show b ≠ M; omega))) (Nat.le_refl _) (Nat.le_refl _) _ _ HR.out
 · obtain ⟨y0, y1, y2, y3, y4, y5, y6, y7, y8, y9⟩ := Ei hB
   have HRL := Lib.hid hrl
   have hqr : k ≤ r := by omega
   have hS1 : ((at' + k : Nat) : Int) - (k : Int) = (at' : Int) := by omega
   have hS2 : (at' : Int) + (k : Int) - (k : Int) = (at' : Int) := by omega
   have hr63 : at' + r ≤ 9223372036854775807 := by omega
   obtain ⟨A', hA', hAA⟩ : ∃ A', (if r = 0 then some (⟨b, 0, none⟩ : Addr) else some ⟨b, at' * 6, none⟩) = A' ∧ (k = 0 ∨ A' = some ⟨b, at' * 6, none⟩) := by
     by_cases h : r = 0
     · exact ⟨_, if_pos h, Or.inl (by omega)⟩
     · exact ⟨_, if_neg h, Or.inr rfl⟩
   have HAA := Lib.hid hAA
   have b1 : (0 : Int) ≤ (at' : Int) := by omega
   have b2 : (at' : Int) ≤ ((at' + k : Nat) : Int) := by omega
   have b3 : (at' : Int) ≤ (at' : Int) + (k : Int) := by omega
   have b4 : (at' : Int) ≤ (at' : Int) + (r : Int) := by omega
   have b5 : (at' : Int) ≤ ((at' + r : Nat) : Int) := by omega
   have b6 : at' ≤ at' + k := by omega
   have b7 : at' ≤ at' + r := by omega
   clear hB hr hrl hat hlc hc hAA hhi
   go_enter Tryz.func69, Tryz.ntmps69
   go_wp2_with fail
   go_ret
   have hf : MFr M w (w.setCell ⟨M, 0, none⟩ (.slice (some ⟨b, 0, none⟩) at' at')) := (MFr.refl M w).cellM
   have hrl2 := RL.mfrh HRL.out HHI.out hMb hbl hf
   have htl : (vs.take at').length = at' := by rw [List.length_take, HVL.out]; omega
   refine ⟨A', r, rfl, hqr, ?_, ?_, hf, Jn⟩
   · rw [HAT.out]
     rcases HAA.out with h0 | h1
     · exact Or.inl (by rw [List.length_drop, HVL.out]; omega)
     · refine Or.inr ⟨b, at' * 6, h1, Nat.lt_of_lt_of_le hbl (Nat.le_trans HHI.out hf.size), ?_⟩
       have := RL.drop vs b 0 at' hrl2
       rwa [Nat.zero_add] at this
   · rw [HAT.out]
     refine ⟨some ⟨b, 0, none⟩, r0, r1, r2, r3, r4, r5, by rw [htl]; exact heap_setCell_same _ _ 0 _ _ _ HB.out, ?_, by rw [htl]; exact Nat.le_refl _, Nat.le_trans HHI.out hf.size, Or.inr ⟨b, rfl, hMb, hbl, RL.take vs b 0 at' hrl2⟩⟩
     exact RV.keep (fun b o hb => World.cell?_of_block (a := ⟨b, o, none⟩) (Below.heap_setCell _ _ _ _ (by show b ≠ M; omega))) (Nat.le_refl _) (Nat.le_refl _) _ _ HR.out
def Mb (M : Nat) (vs : List VT) (w : World) (e : Ending) (w' : World) : Prop :=
 ∃ v0 v1 v2 v3 v4 v5, e = .returned (.agg #[v0, v1, v2, v3, v4, v5]) ∧ RV w' (M + 1) w'.heap.size (Bz vs) [v0, v1, v2, v3, v4, v5] ∧ Below w.heap.size w w'
set_option maxHeartbeats 1000000 in
set_option maxRecDepth 100000 in
theorem EP (M hi : Nat) (row : VT) (vs : List VT) (c : Nat) (f nx : Int) (w : World) (hM : Mach M hi w row vs c f nx) (hk : 0 < vs.length) (hlen : vs.length ≤ 1000) :
   Calls Tryz.prog 34 #[.pointer (some ⟨M, 0, none⟩)] w (Mb M vs w) := by
 have hml := hM.lt
 obtain ⟨A, r0, r1, r2, r3, r4, r5, hB, hr, hlc, hhi, hst⟩ := hM
 rcases hst with ⟨rfl, h0, hc0⟩ | ⟨b, rfl, hMb, hbl, hrl⟩
 · omega
 obtain ⟨n, hn⟩ : ∃ n, vs.length = n + 1 := ⟨vs.length - 1, by omega⟩
 have hlt : n < vs.length := by omega
 obtain ⟨v0, v1, v2, v3, v4, v5, e0, e1, e2, e3, e4, e5, hvx⟩ := RL.el (Au vs) b 0 n (vs[n]'hlt) hrl (D4 vs n hlt)
 rw [Nat.zero_add] at e0 e1 e2 e3 e4 e5
 have htop : Bz vs = vs[n]'hlt := by unfold Bz; rw [hn]; simp [List.getD, hlt]
 rw [← htop] at hvx
 have hvx := RV.keep (fun _ _ _ => rfl) (Nat.le_refl _) hhi _ _ hvx
 have HVX := Lib.hid hvx
 obtain ⟨kx, bx, nx', sx, lx, fx, ax1, cx1, ax2, cx2, hxe, ex, hjx⟩ := RV.mk_parts hvx
 simp only [List.cons.injEq, and_true] at ex
 obtain ⟨rfl, rfl, rfl, rfl, rfl, rfl⟩ := ex
 rw [hn] at hB
 have hW := Ad (w := w) Ah
 have HW := Lib.hid hW
 have hz := Ab w Ah
 have hBW := blk hW hB
 have e0 := Ac hW e0
 have e1 := Ac hW e1
 have e2 := Ac hW e2
 have e3 := Ac hW e3
 have e4 := Ac hW e4
 have e5 := Ac hW e5
 obtain ⟨m, hm⟩ : ∃ m, n + 1 = m := ⟨_, rfl⟩
 rw [hm] at hB hBW
 have hS1 : (m : Int) - 1 = (n : Int) := by omega
 have hm1000 : m ≤ 1000 := by omega
 have hw1 : IntKind.i64.wrap (n : Int) = (n : Int) := IntWalk.i64_in _ (by omega)
 have hw2 : IntKind.i64.wrap ((m : Int) - 1) = (n : Int) := by rw [hS1]; exact hw1
 have hw6 : (0 : Int) ≤ (n : Int) := by omega
 have hw7 : n < m := by omega
 have hw8 : (n : Int) < (m : Int) := by omega
 have hne : b ≠ w.heap.size := by omega
 have hs : (w.alloc Ah).heap.size = w.heap.size + 1 := by simp
 clear hr hrl hB hxe hjx hvx htop hlt hW hlen hk hn hlc hm
 go_enter Tryz.func34, Tryz.ntmps34
 go_upto_region 1 with (fail)
 generalize w.alloc Ah = W at *
 have HZ := Lib.hid hz
 have HS := Lib.hid hs
 obtain ⟨y0, y1, y2, y3, y4, y5, y6, y7, y8, y9⟩ := Ei (show W.drew.heap[_]? = _ from hBW)
 obtain ⟨z0, z1, z2, z3, z4, z5, z6⟩ := Ae (show W.drew.heap[_]? = _ from hz)
 have e0 := (show W.drew.cell? _ = _ from e0)
 have e1 := (show W.drew.cell? _ = _ from e1)
 have e2 := (show W.drew.cell? _ = _ from e2)
 have e3 := (show W.drew.cell? _ = _ from e3)
 have e4 := (show W.drew.cell? _ = _ from e4)
 have e5 := (show W.drew.cell? _ = _ from e5)
 clear hBW hz hs
 refine Bg 12 1 #[true, true, true, true, true, true, true, true, true, true, true, true, false] (fun w' => w' = W.drew) (by kernel_rfl) (by simp only [List.take_succ_cons, List.take_zero]; rfl) (by kernel_rfl) (by kernel_rfl) (by kernel_rfl) ?_ ?_
 · rfl
 repeat
   first
   | go_big_quiet_skip
   | go_big_quiet_want
     apply Exists.intro
     refine ⟨fun wq hC => ?_, ?_⟩
     · subst hC
       unfold Oper.quietAt
       go_simp
       first
       | rfl
       | exact ⟨rfl, rfl⟩
     (try simp only [Act.put, List.setIfInBounds_toArray, List.set_cons_zero, List.set_cons_succ])
     go_big_quiet_on
 refine wpQuiet_nil ?_
 rintro wy hwy
 have hzy : wy.heap[w.heap.size]? = some Ah := by rw [hwy]; exact HZ.out
 have HWY : Hid (Below w.heap.size w wy) := Lib.hid (by rw [hwy]; exact HW.out.drew)
 clear hwy z0 z1 z2 z3 z4 z5 z6 y0 y1 y2 y3 y4 y5 y6 y7 y8 y9 e0 e1 e2 e3 e4 e5
 obtain ⟨z0, z1, z2, z3, z4, z5, z6⟩ := Ae hzy
 clear hzy
 refine Bl 12 _ (by kernel_rfl) (by rfl) (by rfl) (fun K hK => ?_)
 go_simp
 refine hK _ _ ?_
 clear hK K
 refine Dh (by kernel_rfl) ?_
 all_goals
   go_wp2_with fail
   refine bodyPost_ret (v := .agg #[.int .u8 kx, .bool bx, .int .i64 nx', .string sx, .slice ax1 lx.len cx1, .slice ax2 fx.len cx2]) (by simp [results, Tryz.results34, go_sem, Ai, z0, z1, z2, z3, z4, z5]) rfl ?_
   have hb := Ag (B := w.heap.size) (a := w) (g := w.heap.size) (Nat.le_refl _) [.int .u8 kx, .bool bx, .int .i64 nx', .string sx, .slice ax1 lx.len cx1, .slice ax2 fx.len cx2] 0 wy HWY.out
   exact ⟨_, _, _, _, _, _, rfl, RV.mfr HVX.out (MFr.of_below hb), hb⟩
/- vm's stack: push; vm.own. -/
def Ds : List VT → World → Nat → Nat → List Value → Prop
 | [], _, _, _, cs => cs = []
 | t :: r, w, lo, hi, cs => ∃ v0 v1 v2 v3 v4 v5 cr, cs = v0 :: v1 :: v2 :: v3 :: v4 :: v5 :: cr ∧ RV w lo hi t [v0, v1, v2, v3, v4, v5] ∧ Ds r w lo hi cr
theorem JP {w : World} {lo hi : Nat} : ∀ (vs : List VT) (b o : Nat), RL w lo hi (Au vs) b o → ∃ cs, Ds vs w lo hi cs ∧ cs.length = vs.length * 6 ∧ ∀ j v, cs[j]? = some v → w.cell? ⟨b, o + j, none⟩ = some v
 | [], b, o, _ => ⟨[], rfl, rfl, fun j v h => by simp at h⟩
 | t :: r, b, o, h => by
   unfold Au RL at h
   obtain ⟨⟨v0, v1, v2, v3, v4, v5, e0, e1, e2, e3, e4, e5, hv⟩, hr⟩ := h
   obtain ⟨cr, h1, h2, h3⟩ := JP r b (o + 6) hr
   refine ⟨v0 :: v1 :: v2 :: v3 :: v4 :: v5 :: cr, ⟨v0, v1, v2, v3, v4, v5, cr, rfl, hv, h1⟩, by simp [h2]; omega, fun j v hj => ?_⟩
   match j, hj with
   | 0, hj => cases hj; exact e0
   | 1, hj => cases hj; exact e1
   | 2, hj => cases hj; exact e2
   | 3, hj => cases hj; exact e3
   | 4, hj => cases hj; exact e4
   | 5, hj => cases hj; exact e5
   | j + 6, hj =>
     have := h3 j v (by simpa using hj)
     rwa [show o + 6 + j = o + (j + 6) by omega] at this
theorem GZ {w w' : World} {lo hi hi' : Nat} : ∀ (vs : List VT) (cs : List Value) (b o : Nat), Ds vs w lo hi cs → (∀ t us, RV w lo hi t us → RV w' lo hi' t us) → (∀ j v, cs[j]? = some v → w'.cell? ⟨b, o + j, none⟩ = some v) → RL w' lo hi' (Au vs) b o
 | [], cs, b, o, _, _, _ => by unfold Au RL; trivial
 | t :: r, cs, b, o, h, hk, hc => by
   obtain ⟨v0, v1, v2, v3, v4, v5, cr, rfl, hv, hr⟩ := h
   unfold Au RL
   refine ⟨⟨v0, v1, v2, v3, v4, v5, hc 0 _ rfl, hc 1 _ rfl, hc 2 _ rfl, hc 3 _ rfl, hc 4 _ rfl, hc 5 _ rfl, hk _ _ hv⟩, GZ r cr b (o + 6) hr hk fun j v hj => ?_⟩
   have := hc (j + 6) v (by simpa using hj)
   rwa [show o + (j + 6) = o + 6 + j by omega] at this
theorem Hi {w : World} {lo hi : Nat} {t : VT} {u0 u1 u2 u3 u4 u5 : Value} (ht : RV w lo hi t [u0, u1, u2, u3, u4, u5]) : ∀ (vs : List VT) (cs : List Value), Ds vs w lo hi cs → Ds (vs ++ [t]) w lo hi (cs ++ [u0, u1, u2, u3, u4, u5])
 | [], cs, h => by
   cases h
   exact ⟨u0, u1, u2, u3, u4, u5, [], rfl, ht, rfl⟩
 | x :: r, cs, h => by
   obtain ⟨v0, v1, v2, v3, v4, v5, cr, rfl, hv, hr⟩ := h
   exact ⟨v0, v1, v2, v3, v4, v5, cr ++ [u0, u1, u2, u3, u4, u5], rfl, hv, Hi ht r cr hr⟩
def Fm (M : Nat) (row : VT) (vs : List VT) (t : VT) (f nx : Int) (w : World) (e : Ending) (w' : World) : Prop :=
 e = .returned (.tuple #[]) ∧ ∃ c', c' ≤ maxLen ∧ Mach M w'.heap.size w' row (vs ++ [t]) c' f nx ∧ MFr M w w'
abbrev DK : List Value := [.int .u8 0, .bool false, .int .i64 0, .string ⟨#[]⟩, .slice none 0 0, .slice none 0 0]
theorem PW {M : Nat} {w W9 : World} {row : VT} {vs : List VT} {A : Option Addr} {r0 r1 r2 r3 r4 r5 : Value} {f nx : Int} {t : VT} {u0 u1 u2 u3 u4 u5 : Value} {g cap n : Nat} {cur : Array Value} {cs : List Value} (hn : vs.length = n)
   (hB : w.heap[M]? = some (.cells #[.slice A n n, r0, r1, r2, r3, r4, r5, .int .i64 f, .int .i64 nx] 78 (0, 0))) (hr : RV w 0 M row [r0, r1, r2, r3, r4, r5]) (hcs : Ds vs w (M + 1) w.heap.size cs) (hv : RV w (M + 1) w.heap.size t [u0, u1, u2, u3, u4, u5])
   (hbw : Below w.heap.size w W9) (hg : W9.heap[g]? = some (.cells cur 27 (0, 0))) (hgl : w.heap.size ≤ g) (hc1 : n + 1 ≤ cap) (hc2 : cap ≤ maxLen) (hcur : cur.size = cap * 6) (htk : cur.toList.take ((n + 1) * 6) = cs ++ DK) :
   Fm M row vs t f nx w (.returned (.tuple #[])) ((W9.setCells g (n * 6) [u0, u1, u2, u3, u4, u5]).setCell ⟨M, 0, none⟩ (.slice (some ⟨g, 0, none⟩) (n + 1) cap)) := by
 have hml : M < w.heap.size := lt_of_block hB
 have hB9 : W9.heap[M]? = _ := blk hbw hB
 have hcl : cs.length = n * 6 := by
   have h := congrArg List.length htk
   rw [List.length_take, Array.length_toList, hcur, List.length_append] at h
   simp only [DK, List.length_cons, List.length_nil] at h
   have : (n + 1) * 6 ≤ cap * 6 := Nat.mul_le_mul_right _ hc1
   omega
 have hne : M ≠ g := by omega
 have hszc := Ay (g := g) [u0, u1, u2, u3, u4, u5] (n * 6) W9
 have hff : MFr M w (W9.setCells g (n * 6) [u0, u1, u2, u3, u4, u5]) := by
   have h1 := Ag (B := w.heap.size) (a := w) hgl [u0, u1, u2, u3, u4, u5] (n * 6) W9 hbw
   exact MFr.of_below h1
 have hMc : (W9.setCells g (n * 6) [u0, u1, u2, u3, u4, u5]).heap[M]? = some (.cells #[.slice A n n, r0, r1, r2, r3, r4, r5, .int .i64 f, .int .i64 nx] 78 (0, 0)) := (Ag (B := w.heap.size) (a := w) hgl [u0, u1, u2, u3, u4, u5] (n * 6) W9 hbw).block _ hml |>.trans hB
 have hfin := hff.cellM (v := .slice (some ⟨g, 0, none⟩) (n + 1) cap) (o := 0)
 have hgs : g < W9.heap.size := lt_of_block hg
 refine ⟨rfl, cap, hc2, ⟨some ⟨g, 0, none⟩, r0, r1, r2, r3, r4, r5, ?_, ?_, by rw [List.length_append, hn]; exact hc1, Nat.le_refl _, Or.inr ⟨g, rfl, by omega, ?_, ?_⟩⟩, hfin⟩
 · rw [List.length_append, hn]
   exact heap_setCell_same _ _ 0 _ _ _ hMc
 · exact RV.keep (fun b o hb => (World.cell?_of_block (a := ⟨b, o, none⟩) (hfin.block (b := b) (by omega) (by omega)))) (Nat.le_refl _) (Nat.le_refl _) _ _ hr
 · have : ((W9.setCells g (n * 6) [u0, u1, u2, u3, u4, u5]).setCell ⟨M, 0, none⟩ (.slice (some ⟨g, 0, none⟩) (n + 1) cap)).heap.size = W9.heap.size := by simp [World.setCell, hszc]
   omega
 · refine GZ (w := w) (hi := w.heap.size) _ _ g 0 (Hi hv vs cs hcs) (fun t us h => RV.mfr h hfin) fun j v hj => ?_
   rw [Nat.zero_add]
   have hjl : j < n * 6 + 6 := by
     have := (List.getElem?_eq_some_iff.1 hj).1
     rw [List.length_append, hcl] at this
     simpa using this
   have hcell : ((W9.setCells g (n * 6) [u0, u1, u2, u3, u4, u5]).setCell ⟨M, 0, none⟩ (.slice (some ⟨g, 0, none⟩) (n + 1) cap)).cell? ⟨g, j, none⟩ = (W9.setCells g (n * 6) [u0, u1, u2, u3, u4, u5]).cell? ⟨g, j, none⟩ := World.cell?_of_block (a := ⟨g, j, none⟩) (Below.heap_setCell _ _ _ _ (by show g ≠ M; omega))
   rw [hcell]
   have hbound : (n + 1) * 6 ≤ cap * 6 := Nat.mul_le_mul_right _ hc1
   have hcellat : ∀ i, i < (n + 1) * 6 → W9.cell? ⟨g, i, none⟩ = (cs ++ DK)[i]? := fun i hi => by
     rw [← htk, List.getElem?_take_of_lt hi]
     simp [World.cell?, hg]
   by_cases hjn : j < n * 6
   · rw [World.cell?_setCells_out g _ _ _ ⟨g, j, none⟩ (fun _ _ => Or.inl hjn), hcellat j (by omega), List.getElem?_append_left (by omega)]
     rw [List.getElem?_append_left (by omega)] at hj
     exact hj
   · rw [List.getElem?_append_right (by omega), hcl] at hj
     obtain ⟨d, rfl⟩ : ∃ d, j = n * 6 + d := ⟨j - n * 6, by omega⟩
     rw [Nat.add_sub_cancel_left] at hj
     have hd : d < [u0, u1, u2, u3, u4, u5].length := (List.getElem?_eq_some_iff.1 hj).1
     rw [World.cell?_setCells_in g [u0, u1, u2, u3, u4, u5] (n * 6) W9 (fun i hi => ?_) d hd]
     · rw [← (List.getElem?_eq_some_iff.1 hj).2]
     · have hi6 : i < 6 := by simpa using hi
       rw [hcellat (n * 6 + i) (by omega), List.getElem?_eq_getElem (by rw [List.length_append, hcl]; simp; omega)]
       rfl
theorem NX {W9 : World} {g cap n : Nat} {cur : Array Value} {cs : List Value} (hg : W9.heap[g]? = some (.cells cur 27 (0, 0))) (hcl : cs.length = n * 6) (hc1 : n + 1 ≤ cap) (hcur : cur.size = cap * 6) (htk : cur.toList.take ((n + 1) * 6) = cs ++ DK) :
  W9.cell? ⟨g, n * 6, none⟩ = some (.int .u8 0) ∧ W9.cell? ⟨g, n * 6 + 1, none⟩ = some (.bool false) ∧ W9.cell? ⟨g, n * 6 + 2, none⟩ = some (.int .i64 0) ∧ W9.cell? ⟨g, n * 6 + 3, none⟩ = some (.string ⟨#[]⟩) ∧ W9.cell? ⟨g, n * 6 + 4, none⟩ = some (.slice none 0 0) ∧ W9.cell? ⟨g, n * 6 + 5, none⟩ = some (.slice none 0 0) ∧ (∀ o, W9.frozen? ⟨g, o, none⟩ = false) := by
 have at_ : ∀ d, d < 6 → W9.cell? ⟨g, n * 6 + d, none⟩ = DK[d]? := fun d hd => by
  have h1 : W9.cell? ⟨g, n * 6 + d, none⟩ = cur.toList[n * 6 + d]? := by simp [World.cell?, hg]
  rw [h1, ← List.getElem?_take_of_lt (show n * 6 + d < (n + 1) * 6 by omega), htk, List.getElem?_append_right (by omega), hcl, Nat.add_sub_cancel_left]
 refine ⟨at_ 0 (by omega), at_ 1 (by omega), at_ 2 (by omega), at_ 3 (by omega), at_ 4 (by omega), at_ 5 (by omega), fun o => by simp [World.frozen?, hg]⟩
theorem CI {M : Nat} {w W9 : World} {row : VT} {vs : List VT} {A : Option Addr} {r0 r1 r2 r3 r4 r5 : Value} {f nx : Int} {t : VT} {u0 u1 u2 u3 u4 u5 : Value} {g cap n m : Nat} {cur : Array Value} {cs : List Value} (hn : vs.length = n) (hm : n + 1 = m)
  (hB : w.heap[M]? = some (.cells #[.slice A n n, r0, r1, r2, r3, r4, r5, .int .i64 f, .int .i64 nx] 78 (0, 0))) (hr : RV w 0 M row [r0, r1, r2, r3, r4, r5]) (hcs : Ds vs w (M + 1) w.heap.size cs) (hv : RV w (M + 1) w.heap.size t [u0, u1, u2, u3, u4, u5])
  (hbw : Below w.heap.size w W9) (hg : W9.heap[g]? = some (.cells cur 27 (0, 0))) (hgl : w.heap.size ≤ g) (hc1 : n + 1 ≤ cap) (hc2 : cap ≤ maxLen) (hcur : cur.size = cap * 6) (htk : cur.toList.take ((n + 1) * 6) = cs ++ DK) :
  Fm M row vs t f nx w (.returned (.tuple #[])) (((((((W9.setCell ⟨g, n * 6, none⟩ u0).setCell ⟨g, n * 6 + 1, none⟩ u1).setCell ⟨g, n * 6 + 2, none⟩ u2).setCell ⟨g, n * 6 + 3, none⟩ u3).setCell ⟨g, n * 6 + 4, none⟩ u4).setCell ⟨g, n * 6 + 5, none⟩ u5).setCell ⟨M, 0, none⟩ (.slice (some ⟨g, 0, none⟩) m cap)) := by
 subst hm
 exact PW hn hB hr hcs hv hbw hg hgl hc1 hc2 hcur htk
theorem Lk {w : World} {a b : Addr} {u v : Value} (h : a.block ≠ b.block) : (w.setCell a u).setCell b v = (w.setCell b v).setCell a u := by
 unfold World.setCell
 congr 1
 apply Array.ext_getElem?
 intro i
 simp only [Array.getElem?_modify]
 by_cases h1 : b.block = i
 · by_cases h2 : a.block = i
   · exact absurd (h2.trans h1.symm) h
   · simp [h1, h2]
 · simp [h1]
theorem Dc {M : Nat} {w W9 : World} {row : VT} {vs : List VT} {A : Option Addr} {r0 r1 r2 r3 r4 r5 : Value} {f nx : Int} {t : VT} {u0 u1 u2 u3 u4 u5 : Value} {g cap n m : Nat} {cur : Array Value} {cs : List Value} (hn : vs.length = n) (hm : n + 1 = m)
  (hB : w.heap[M]? = some (.cells #[.slice A n n, r0, r1, r2, r3, r4, r5, .int .i64 f, .int .i64 nx] 78 (0, 0))) (hr : RV w 0 M row [r0, r1, r2, r3, r4, r5]) (hcs : Ds vs w (M + 1) w.heap.size cs) (hv : RV w (M + 1) w.heap.size t [u0, u1, u2, u3, u4, u5])
  (hbw : Below w.heap.size w W9) (hg : W9.heap[g]? = some (.cells cur 27 (0, 0))) (hgl : w.heap.size ≤ g) (hc1 : n + 1 ≤ cap) (hc2 : cap ≤ maxLen) (hcur : cur.size = cap * 6) (hne : M ≠ g) (htk : cur.toList.take ((n + 1) * 6) = cs ++ DK) :
  Fm M row vs t f nx w (.returned (.tuple #[])) (((((((W9.setCell ⟨M, 0, none⟩ (.slice (some ⟨g, 0, none⟩) m cap)).setCell ⟨g, n * 6, none⟩ u0).setCell ⟨g, n * 6 + 1, none⟩ u1).setCell ⟨g, n * 6 + 2, none⟩ u2).setCell ⟨g, n * 6 + 3, none⟩ u3).setCell ⟨g, n * 6 + 4, none⟩ u4).setCell ⟨g, n * 6 + 5, none⟩ u5) := by
 have hc := fun (W : World) (o : Nat) (u v : Value) => Lk (w := W) (a := ⟨M, 0, none⟩) (b := ⟨g, o, none⟩) (u := u) (v := v) hne
 rw [hc W9, hc (W9.setCell _ _), hc ((W9.setCell _ _).setCell _ _), hc (((W9.setCell _ _).setCell _ _).setCell _ _), hc ((((W9.setCell _ _).setCell _ _).setCell _ _).setCell _ _), hc (((((W9.setCell _ _).setCell _ _).setCell _ _).setCell _ _).setCell _ _)]
 exact CI hn hm hB hr hcs hv hbw hg hgl hc1 hc2 hcur htk
set_option maxHeartbeats 4000000 in
set_option maxRecDepth 100000 in
theorem Ea (M hi : Nat) (row : VT) (vs : List VT) (t : VT) (f nx : Int) (v0 v1 v2 v3 v4 v5 : Value) (w : World) (hM : Mach M hi w row vs vs.length f nx) (hlen : vs.length ≤ 1000) (hv : RV w (M + 1) w.heap.size t [v0, v1, v2, v3, v4, v5]) :
   Calls Tryz.prog 70 #[.pointer (some ⟨M, 0, none⟩), .agg #[v0, v1, v2, v3, v4, v5]] w (Fm M row vs t f nx w) := by
 have hml := hM.lt
 obtain ⟨A, r0, r1, r2, r3, r4, r5, hB, hr, hlc, hhi, hst⟩ := hM
 have HV := Lib.hid hv
 obtain ⟨kx, bx, nx', sx, lx, fx, ax1, cx1, ax2, cx2, hxe, ex, hjx⟩ := RV.mk_parts hv
 simp only [List.cons.injEq, and_true] at ex
 obtain ⟨rfl, rfl, rfl, rfl, rfl, rfl⟩ := ex
 obtain ⟨cs, hcs, hcl, hold⟩ : ∃ cs, Ds vs w (M + 1) w.heap.size cs ∧ cs.length = vs.length * 6 ∧ (vs.length = 0 ∧ A = none ∨ ∃ b, A = some ⟨b, 0, none⟩ ∧ b < w.heap.size ∧ ∀ j v, cs[j]? = some v → w.cell? ⟨b, j, none⟩ = some v) := by
   rcases hst with ⟨h1, h2, h3⟩ | ⟨b, h1, h2, h3, h4⟩
   · have := List.length_eq_zero_iff.1 h2
     subst this
     exact ⟨[], rfl, rfl, Or.inl ⟨rfl, h1⟩⟩
   · obtain ⟨cs, k1, k2, k3⟩ := JP vs b 0 (RQL.to_rv (hi := w.heap.size) (fun b hb => ⟨hb.1, Nat.lt_of_lt_of_le hb.2 hhi⟩) _ b 0 (RQL.of_rv _ b 0 h4))
     exact ⟨cs, k1, k2, Or.inr ⟨b, h1, Nat.lt_of_lt_of_le h3 hhi, fun j v hj => by have := k3 j v hj; rwa [Nat.zero_add] at this⟩⟩
 obtain ⟨n, hn⟩ : ∃ n, vs.length = n := ⟨_, rfl⟩
 rw [hn] at hB hcl hlen hold
 have HN := Lib.hid hn
 have HB := Lib.hid hB
 have HR := Lib.hid hr
 have HCS := Lib.hid hcs
 have HCL := Lib.hid hcl
 have HOLD := Lib.hid hold
 have hW := Ad (w := w) (.cells #[.int .u8 kx, .bool bx, .int .i64 nx', .string sx, .slice ax1 lx.len cx1, .slice ax2 fx.len cx2] 27)
 have hx := Ab w (.cells #[.int .u8 kx, .bool bx, .int .i64 nx', .string sx, .slice ax1 lx.len cx1, .slice ax2 fx.len cx2] 27)
 have hs : (w.alloc (.cells #[.int .u8 kx, .bool bx, .int .i64 nx', .string sx, .slice ax1 lx.len cx1, .slice ax2 fx.len cx2] 27)).heap.size = w.heap.size + 1 := by simp
 clear hr hcs hcl hold hst hlc hhi hxe hjx hv hn
 go_enter Tryz.func70, Tryz.ntmps70
 go_upto_region 1 with (fail)
 generalize w.alloc (.cells #[.int .u8 kx, .bool bx, .int .i64 nx', .string sx, .slice ax1 lx.len cx1, .slice ax2 fx.len cx2] 27) = W at *
 have HW := Lib.hid hW
 have HX := Lib.hid hx
 have HS := Lib.hid hs
 have hz := Ad (w := W) Ah
 have hzd := Below.drew hz
 obtain ⟨y0, _⟩ := Ei (blk hW hB)
 obtain ⟨x0, x1, x2, x3, x4, x5, x6⟩ := Ae hx
 have y0a := Ac hz y0
 have y0b : W.drew.cell? _ = _ := y0
 have y0d : (W.alloc Ah).drew.cell? _ = _ := y0a
 have x0a := Ac hz x0
 have x1a := Ac hz x1
 have x2a := Ac hz x2
 have x3a := Ac hz x3
 have x4a := Ac hz x4
 have x5a := Ac hz x5
 obtain ⟨i0, hi0, hz00, hz1, hz2⟩ := info_parts Tryz.infoV
 have E1 : Hid (n + 1 ≤ maxLen) := Lib.hid (by unfold maxLen; omega)
 have E2 : Hid ((n + 1) * 80 ≤ 140737488355328) := Lib.hid (by omega)
 have HZD := Lib.hid (Aa HW.out HW.out.size hzd)
 have HG : Hid ((W.alloc Ah).drew.heap.size = w.heap.size + 1 + 1) := Lib.hid (by show (W.alloc Ah).heap.size = _; simp [HS.out])
 have HO : Hid (n = 0 ∧ A = none ∨ ∃ b, A = some b ∧ ∀ j v, cs[j]? = some v → (W.alloc Ah).drew.cell? (b.add j) = some v) := Lib.hid (by
   rcases HOLD.out with h | ⟨b, e, hbl, hc⟩
   · exact Or.inl h
   · exact Or.inr ⟨⟨b, 0, none⟩, e, fun j v hj => by rw [AS, Nat.zero_add]; exact Ac HZD.out (hc j v hj)⟩)
 have HGE : Hid (w.heap.size ≤ w.heap.size + 1 + 1) := Lib.hid (by omega)
 clear hW hx hs hz hzd hB
 go_region_law ((refine Id rfl (.tmp 7) (.tmp 10) 24 rfl 27 i0 (.agg #[.int .u8 0, .bool false, .int .i64 0, .string ⟨#[]⟩, .slice none 0 0, .slice none 0 0]) 6 80 Tryz.underlying24 hi0 hz00 hz1 hz2 rfl n A cs (by simp [Act.eval, Act.put]) HCL.out HO.out ⟨W.heap.size, 0, none⟩ 1 DK (by simp [Act.eval, Act.put]) rfl (Jg W _ _ _ _ _ _ _) E1.out E2.out ?_); intro cap cur hc1 hc2 hcur htk; have hg9 : (((W.alloc Ah).drew.drew).alloc (.cells cur 27)).heap[w.heap.size + 1 + 1]? = some (.cells cur 27 (0, 0)) := HG.out ▸ Ab ((W.alloc Ah).drew.drew) (.cells cur 27); have hb9 := Aa HZD.out HZD.out.size (Aa (Below.drew (Below.refl (W.alloc Ah).drew.heap.size (W.alloc Ah).drew)) (Nat.le_refl _) (Ad (.cells cur 27))); rw [HG.out]; obtain ⟨z0, z1, z2, z3, z4, z5, z6⟩ := NX hg9 HCL.out hc1 hcur htk; generalize ((W.alloc Ah).drew.drew).alloc (.cells cur 27) = W9 at *; have HG9 := Lib.hid hg9; have HB9 := Lib.hid hb9; have HC1 := Lib.hid hc1; have HC2 := Lib.hid hc2; have HCU := Lib.hid hcur; have HTK := Lib.hid htk; obtain ⟨u0, u1, u2, u3, u4, u5, u6, u7, u8, u9⟩ := Ei (blk hb9 HB.out); obtain ⟨m, hm⟩ : ∃ m, n + 1 = m := ⟨_, rfl⟩; rw [hm]; have hnm : n < m := (by omega); have hnm2 : (n : Int) < (m : Int) := (by omega); have hw6 : (0 : Int) ≤ (n : Int) := (by omega); have hw1 : IntKind.i64.wrap (n : Int) = (n : Int) := IntWalk.i64_in _ (by omega); have hne : M ≠ w.heap.size + 1 + 1 := (by omega); have hne2 : w.heap.size + 1 + 1 ≠ M := (by omega); have HM := Lib.hid hm; have HNE := Lib.hid hne; clear hg9 hb9 hc1 hc2 hcur htk hm x0 x1 x2 x3 x4 x5 x6 x0a x1a x2a x3a x4a x5a y0 y0a y0b y0d u1 u2 u3 u4 u5 u6 u7 u8)
 · go_end0
   have hpe := CI HN.out HM.out HB.out HR.out HCS.out HV.out HB9.out HG9.out HGE.out HC1.out HC2.out HCU.out HTK.out
   with_reducible exact hpe
 · go_end0
   have hpe := Dc HN.out HM.out HB.out HR.out HCS.out HV.out HB9.out HG9.out HGE.out HC1.out HC2.out HCU.out HNE.out HTK.out
   with_reducible exact hpe
 · go_end0
   have hpe := CI HN.out HM.out HB.out HR.out HCS.out HV.out HB9.out HG9.out HGE.out HC1.out HC2.out HCU.out HTK.out
   with_reducible exact hpe
 · go_end0
   have hpe := Dc HN.out HM.out HB.out HR.out HCS.out HV.out HB9.out HG9.out HGE.out HC1.out HC2.out HCU.out HNE.out HTK.out
   with_reducible exact hpe
 · go_end0
   have hpe := CI HN.out HM.out HB.out HR.out HCS.out HV.out HB9.out HG9.out HGE.out HC1.out HC2.out HCU.out HTK.out
   with_reducible exact hpe
 · go_end0
   have hpe := Dc HN.out HM.out HB.out HR.out HCS.out HV.out HB9.out HG9.out HGE.out HC1.out HC2.out HCU.out HNE.out HTK.out
   with_reducible exact hpe
 · go_end0
   have hpe := CI HN.out HM.out HB.out HR.out HCS.out HV.out HB9.out HG9.out HGE.out HC1.out HC2.out HCU.out HTK.out
   with_reducible exact hpe
 · go_end0
   have hpe := Dc HN.out HM.out HB.out HR.out HCS.out HV.out HB9.out HG9.out HGE.out HC1.out HC2.out HCU.out HNE.out HTK.out
   with_reducible exact hpe
 · go_end0
   have hpe := CI HN.out HM.out HB.out HR.out HCS.out HV.out HB9.out HG9.out HGE.out HC1.out HC2.out HCU.out HTK.out
   with_reducible exact hpe
 · go_end0
   have hpe := Dc HN.out HM.out HB.out HR.out HCS.out HV.out HB9.out HG9.out HGE.out HC1.out HC2.out HCU.out HNE.out HTK.out
   with_reducible exact hpe
 · go_end0
   have hpe := CI HN.out HM.out HB.out HR.out HCS.out HV.out HB9.out HG9.out HGE.out HC1.out HC2.out HCU.out HTK.out
   with_reducible exact hpe
 · go_end0
   have hpe := Dc HN.out HM.out HB.out HR.out HCS.out HV.out HB9.out HG9.out HGE.out HC1.out HC2.out HCU.out HNE.out HTK.out
   with_reducible exact hpe
end Go.Proofs.YtbemgcjckchdjaaGreatDoor
