import Derived.Test.YtbemgcjckchdjaaGreatDoorLLg
import Derived.Deep.RegionWith
import Derived.IntWalk
import Derived.Deep.AppendLies
/- What Lex comes to. No program in sight. -/
namespace Go.Proofs.YtbemgcjckchdjaaGreatDoor
open Go.RowKit
set_option linter.unusedSimpArgs false
set_option linter.unusedVariables false
structure TK where
 k : Int
 t : ByteArray
 n : Int
 a : Int
def TK.cells (t : TK) : List Value := [.int .u8 t.k, .string t.t, .int .i64 t.n, .int .i64 t.a]
def BL : List TK → List Value
 | [] => []
 | t :: r => t.cells ++ BL r
theorem Hh : ∀ (l : List TK) (t : TK), BL (l ++ [t]) = BL l ++ t.cells
 | [], t => by simp [BL]
 | x :: r, t => by simp [BL, Hh r t]
def B0 (x : ByteArray) (c : UInt8) : RD :=
 if Cr c = 0 then ID x else if Cr c = 1 then KY x else if Cr c = 2 then GG x else CZ x CN
def EW (s : ByteArray) : Nat → Nat → List TK → Except (Int × Nat) (List TK)
 | 0, _, _ => .error (0, 0)
 | f + 1, a, acc =>
   if a + AA AY (s.data.toList.drop a) = s.size then .ok acc else
   if (B0 (s.extract (a + AA AY (s.data.toList.drop a)) s.size) (s.data.toList.getD (a + AA AY (s.data.toList.drop a)) 0)).why ≠ 0 then .error ((B0 (s.extract (a + AA AY (s.data.toList.drop a)) s.size) (s.data.toList.getD (a + AA AY (s.data.toList.drop a)) 0)).why, a + AA AY (s.data.toList.drop a))
   else EW s f (a + AA AY (s.data.toList.drop a) + (B0 (s.extract (a + AA AY (s.data.toList.drop a)) s.size) (s.data.toList.getD (a + AA AY (s.data.toList.drop a)) 0)).len.toNat)
    (acc ++ [⟨(B0 (s.extract (a + AA AY (s.data.toList.drop a)) s.size) (s.data.toList.getD (a + AA AY (s.data.toList.drop a)) 0)).k, (B0 (s.extract (a + AA AY (s.data.toList.drop a)) s.size) (s.data.toList.getD (a + AA AY (s.data.toList.drop a)) 0)).t, (B0 (s.extract (a + AA AY (s.data.toList.drop a)) s.size) (s.data.toList.getD (a + AA AY (s.data.toList.drop a)) 0)).n, (a + AA AY (s.data.toList.drop a) : Nat)⟩])
def DL (s : ByteArray) : Except (Int × Nat) (List TK) := if 16384 < s.size then .error (4, 0) else EW s (s.size + 1) 0 []
theorem Gl {s : ByteArray} {f a b : Nat} {acc : List TK} {r : RD} (hb : a + AA AY (s.data.toList.drop a) = b) (hr : B0 (s.extract b s.size) (s.data.toList.getD b 0) = r) :
  EW s (f + 1) a acc = if b = s.size then .ok acc else if r.why ≠ 0 then .error (r.why, b) else EW s f (b + r.len.toNat) (acc ++ [⟨r.k, r.t, r.n, (b : Nat)⟩]) := by
 rw [EW, hb, hr]
theorem JF {p : UInt8 → Bool} {x : ByteArray} {c : UInt8} (hx : x.data.toList.head? = some c) (hp : p c = true) : 1 ≤ AA p x.data.toList := by
 cases h : x.data.toList with
 | nil => rw [h] at hx; simp at hx
 | cons d r =>
   rw [h] at hx
   simp at hx
   subst hx
   rw [AA, if_pos hp]
   omega
theorem Lt : ∀ (f : Nat) (r acc : List UInt8) (n : Nat) (acc' : List UInt8) (n' : Nat), CR f r acc n = some (acc', n') → n < n' ∧ n' ≤ n + r.length
 | 0, _, _, _, _, _, h => by simp [CR] at h
 | f + 1, r, acc, n, acc', n', h => by
   have hlt := Em r 39
   rw [CR] at h
   split at h
   · cases h
   · split at h
     · have := Lt f _ _ _ _ _ h
       simp only [List.length_drop] at this
       rename_i h1 h2
       have h3 : (Lib.indexByte r 39).toNat + 1 < r.length := by
        rcases Nat.lt_or_ge ((Lib.indexByte r 39).toNat + 1) r.length with h4 | h4
        · exact h4
        · rw [List.drop_of_length_le h4] at h2; simp at h2
       omega
     · cases h
       omega
theorem JJ (x : ByteArray) : ∀ (l : List ByteArray), (∀ t ∈ l, 1 ≤ t.size) → (CZ x l).why = 0 → 1 ≤ (CZ x l).len ∧ (CZ x l).len ≤ x.size
 | [], _, h => by simp [CZ, RD.no] at h
 | t :: r, ht, h => by
   unfold CZ at h ⊢
   split
   · rename_i hp
     have h1 := ht t (List.mem_cons_self ..)
     have h2 := (List.isPrefixOf_iff_prefix.1 hp).length_le
     simp at h2
     refine ⟨?_, ?_⟩
     · show (1 : Int) ≤ (t.size : Int); omega
     · show (t.size : Int) ≤ (x.size : Int); have h3 : t.data.size = t.size := rfl; have h4 : x.data.size = x.size := rfl; omega
   · rename_i hp
     rw [if_neg hp] at h
     exact JJ x r (fun t ht' => ht t (List.mem_cons_of_mem _ ht')) h
theorem JD {x : ByteArray} {c : UInt8} (hx : x.data.toList.head? = some c) (h : (B0 x c).why = 0) : 1 ≤ (B0 x c).len ∧ (B0 x c).len ≤ x.size := by
 unfold B0 at h ⊢
 by_cases f0 : Cr c = 0
 · rw [if_pos f0] at h ⊢
   have hc : B2 c = true := by
     unfold Cr at f0
     split at f0
     · assumption
     · split at f0
       · simp at f0
       · split at f0 <;> simp at f0
   have h1 := JF (p := BD) hx (by unfold BD; rw [hc]; rfl)
   have h2 := EO BD x
   unfold ID at h ⊢
   split
   · exact ⟨by show (1 : Int) ≤ (AA BD x.data.toList : Int); omega, by show (AA BD x.data.toList : Int) ≤ (x.size : Int); omega⟩
   · rename_i hk
     rw [if_neg hk] at h
     split
     · rename_i h64; rw [if_pos h64] at h; simp [RD.no] at h
     · exact ⟨by show (1 : Int) ≤ (AA BD x.data.toList : Int); omega, by show (AA BD x.data.toList : Int) ≤ (x.size : Int); omega⟩
 rw [if_neg f0] at h ⊢
 by_cases f1 : Cr c = 1
 · rw [if_pos f1] at h ⊢
   have hc : Bb c = true := by
     unfold Cr at f1
     split at f1
     · simp at f1
     · split at f1
       · assumption
       · split at f1 <;> simp at f1
   have h1 := JF (p := Bb) hx hc
   have h2 := EO Bb x
   unfold KY at h ⊢
   split
   · rename_i u hu
     rw [hu] at h
     simp only at h
     split
     · rename_i hq; rw [if_pos hq] at h; simp [RD.no] at h
     · exact ⟨by show (1 : Int) ≤ (AA Bb x.data.toList : Int); omega, by show (AA Bb x.data.toList : Int) ≤ (x.size : Int); omega⟩
   · rename_i hu
     split at h
     · exact absurd ‹_› (hu _)
     · simp [RD.no] at h
 rw [if_neg f1] at h ⊢
 by_cases f2 : Cr c = 2
 · rw [if_pos f2] at h ⊢
   have hsz : 1 ≤ x.size := by
     cases hl : x.data.toList with
     | nil => rw [hl] at hx; simp at hx
     | cons d r => have := congrArg List.length hl; simp at this; have h3 : x.data.size = x.size := rfl; omega
   unfold GG at h ⊢
   cases ht : CR (x.size + 1) (x.data.toList.drop 1) [] 1 with
   | none => rw [ht] at h; simp [Ft, RD.no] at h
   | some v =>
     obtain ⟨t, n⟩ := v
     have hb := Lt _ _ _ _ _ _ ht
     simp only [List.length_drop, Array.length_toList] at hb
     have h3 : x.data.size = x.size := rfl
     rw [ht] at h
     simp only [Ft] at h ⊢
     split
     · rename_i hq; rw [if_pos hq] at h; simp [RD.no] at h
     · rename_i hq
       rw [if_neg hq] at h
       split
       · exact ⟨by show (1 : Int) ≤ (n : Int); omega, by show (n : Int) ≤ (x.size : Int); omega⟩
       · rename_i hv; rw [if_neg hv] at h; simp [RD.no] at h
 · rw [if_neg f2] at h ⊢
   exact JJ x CN (by decide) h
/- lex.Lex. -/
def QL (w : World) (r : Except (Int × Nat) (List TK)) (x : Ending) (w' : World) : Prop :=
 Below w.heap.size w w' ∧ match r with
 | .error (y, a) => x = .returned (.tuple #[.slice none 0 0, .int .i64 y, .int .i64 a])
 | .ok l => ∃ v, x = .returned (.tuple #[v, .int .i64 0, .int .i64 0]) ∧ w'.ownsRow w.heap.size 158 4 v l.length (BL l)
def LexAt (w : World) (s : ByteArray) (q : Nat) (wr : World) (a g : Nat) (v : Value) (acc : List TK) : Prop :=
 wr.heap[w.heap.size]? = some (.cells #[.string s] 9 (0, 0)) ∧ Forms wr q ∧ wr.heap[g]? = some (.cells #[.int .i64 a] 3 (0, 0)) ∧ wr.ownsRow (w.heap.size + 1) 158 4 v acc.length (BL acc) ∧ v.ownBlock ≠ some g ∧ v.ownBlock ≠ some q ∧ w.heap.size < q ∧ q < wr.heap.size ∧ q ≠ g ∧ w.heap.size < g ∧ acc.length ≤ a ∧ Below w.heap.size w wr
def Pg (v : Value) (w : World) : Nat := match v with | .pointer (some a) => (match w.cell? a with | some (.int _ n) => n.toNat | _ => 0) | _ => 0
theorem Md {w : World} {g a : Nat} (h : w.heap[g]? = some (.cells #[.int .i64 a] 3 (0, 0))) : Pg (.pointer (some ⟨g, 0, none⟩)) w = a := by
 unfold Pg World.cell?
 simp only [h]
 rfl
theorem D8 {w : World} {b : Nat} {v : Value} {T : TypeId} (h : w.heap[b]? = some (.cells #[v] T (0, 0))) : w.cell? ⟨b, 0, none⟩ = some v ∧ ∀ o, w.frozen? ⟨b, o, none⟩ = false := by
 simp [World.cell?, World.frozen?, h]
theorem LexAt.drew {w : World} {s : ByteArray} {q : Nat} {wr : World} {a g : Nat} {v : Value} {acc : List TK} (h : LexAt w s q wr a g v acc) : LexAt w s q wr.drew a g v acc := by
 obtain ⟨h1, h2, h3, h4, h5, h6, h7, h8, h9, h10, h11, h12⟩ := h
 exact ⟨h1, h2, h3, h4, h5, h6, h7, h8, h9, h10, h11, h12.drew⟩
theorem Forms.set {w : World} {q g o : Nat} {u : Value} (h : Forms w q) (hne : q ≠ g) : Forms (w.setCell ⟨g, o, none⟩ u) q := by
 obtain ⟨h0, h1, h2, h3, h4, h5, h6, h7⟩ := h
 have f : ∀ o', (w.setCell ⟨g, o, none⟩ u).cell? ⟨q, o', none⟩ = w.cell? ⟨q, o', none⟩ := fun o' => World.cell?_setCell_far w _ _ _ (Ne.symm hne)
 exact ⟨(f _).trans h0, (f _).trans h1, (f _).trans h2, (f _).trans h3, (f _).trans h4, (f _).trans h5, (f _).trans h6, (f _).trans h7⟩
theorem LexAt.move {w : World} {s : ByteArray} {q : Nat} {wr : World} {a b g : Nat} {v : Value} {acc : List TK} (h : LexAt w s q wr a g v acc) (hab : a ≤ b) : LexAt w s q (wr.setCell ⟨g, 0, none⟩ (.int .i64 b)) b g v acc := by
 obtain ⟨h1, h2, h3, h4, h5, h6, h7, h8, h9, h10, h11, h12⟩ := h
 exact ⟨B9 (by omega) h1, h2.set h9, heap_setCell_same _ _ 0 _ _ _ h3, Cq h4 h5, h5, h6, h7, by simpa [World.setCell] using h8, h9, h10, Nat.le_trans h11 hab, h12.setCell (p := ⟨g, 0, none⟩) (Nat.le_of_lt h10) _⟩
theorem LexAt.keep {w : World} {s : ByteArray} {q : Nat} {wr w' : World} {a g : Nat} {v : Value} {acc : List TK} (h : LexAt w s q wr a g v acc) (hb : Below wr.heap.size wr w') : LexAt w s q w' a g v acc := by
 obtain ⟨h1, h2, h3, h4, h5, h6, h7, h8, h9, h10, h11, h12⟩ := h
 exact ⟨blk hb h1, h2.keep hb, blk hb h3, AM h4 hb, h5, h6, h7, Nat.lt_of_lt_of_le h8 hb.size, h9, h10, h11, Aa h12 h12.size hb⟩
theorem Forms.sets {q gt : Nat} (hne : q ≠ gt) : ∀ (vs : List Value) (o : Nat) (w : World), Forms w q → Forms (w.setCells gt o vs) q
 | [], _, _, h => h
 | v :: r, o, w, h => Forms.sets hne r (o + 1) _ (h.set hne)
theorem LexAt.sets {w : World} {s : ByteArray} {q : Nat} {wr : World} {a g gt o : Nat} {v : Value} {acc : List TK} (vs : List Value) (h : LexAt w s q wr a g v acc) (n1 : w.heap.size < gt) (n2 : gt ≠ q) (n3 : gt ≠ g) (n4 : v.ownBlock ≠ some gt) : LexAt w s q (wr.setCells gt o vs) a g v acc := by
 obtain ⟨h1, h2, h3, h4, h5, h6, h7, h8, h9, h10, h11, h12⟩ := h
 exact ⟨B7 (by omega) _ _ _ h1, h2.sets (Ne.symm n2) _ _ _, B7 (Ne.symm n3) _ _ _ h3, Cz n4 _ _ _ h4, h5, h6, h7, by rw [Ay]; exact h8, h9, h10, h11, Ag (Nat.le_of_lt n1) _ _ _ h12⟩
def Ko (w : World) (s : ByteArray) (q : Nat) (wx : World) (b g : Nat) (v : Value) (acc : List TK) (r : RD) (gt : Nat) : Prop :=
 LexAt w s q wx b g v acc ∧ wx.heap[gt]? = some (.cells #[.int .u8 r.k, .string r.t, .int .i64 r.n, .int .i64 0] 158 (0, 0)) ∧ gt ≠ g ∧ gt ≠ q ∧ w.heap.size < gt ∧ v.ownBlock ≠ some gt
theorem LexAt.old {w : World} {s : ByteArray} {q : Nat} {wr : World} {a g : Nat} {v : Value} {acc : List TK} (h : LexAt w s q wr a g v acc) : q < wr.heap.size ∧ g < wr.heap.size ∧ w.heap.size < wr.heap.size ∧ ∀ k, v.ownBlock = some k → k < wr.heap.size := by
 obtain ⟨h1, h2, h3, h4, h5, h6, h7, h8, h9, h10, h11, h12⟩ := h
 exact ⟨h8, lt_of_block h3, lt_of_block h1, fun k hk => (h4.lt k hk).2⟩
theorem DA {w : World} {s : ByteArray} {q : Nat} {wc w7 w8 : World} {b g : Nat} {v : Value} {acc : List TK} {r : RD} (h : LexAt w s q wc b g v acc) (hb7 : Below wc.heap.size wc w7) (hb8 : Below (w7.alloc (.cells #[.int .u8 0, .string ⟨#[]⟩, .int .i64 0, .int .i64 0] 158)).drew.heap.size (w7.alloc (.cells #[.int .u8 0, .string ⟨#[]⟩, .int .i64 0, .int .i64 0] 158)).drew w8) :
  Ko w s q (w8.setCells w7.heap.size 0 [.int .u8 r.k, .string r.t, .int .i64 r.n, .int .i64 0]) b g v acc r w7.heap.size := by
 obtain ⟨o1, o2, o3, o4⟩ := h.old
 have hs := hb7.size
 have hv : v.ownBlock ≠ some w7.heap.size := fun e => by have := o4 _ e; omega
 have h8 := (((h.keep hb7).keep (Ad _)).drew).keep hb8
 refine ⟨LexAt.sets _ h8 (by omega) (by omega) (by omega) hv, ?_, by omega, by omega, by omega, hv⟩
 have hT := blk hb8 (show (w7.alloc (.cells #[.int .u8 0, .string ⟨#[]⟩, .int .i64 0, .int .i64 0] 158)).drew.heap[w7.heap.size]? = _ from Ab w7 (.cells #[.int .u8 0, .string ⟨#[]⟩, .int .i64 0, .int .i64 0] 158))
 exact heap_setCell_same _ _ 3 _ _ _ (heap_setCell_same _ _ 2 _ _ _ (heap_setCell_same _ _ 1 _ _ _ (heap_setCell_same _ _ 0 _ _ _ hT)))
theorem Eb {w : World} {s : ByteArray} {q : Nat} {wc w7 w8 : World} {b g : Nat} {v : Value} {acc : List TK} {r : RD} (h : LexAt w s q wc b g v acc) (hb7 : Below wc.heap.size wc w7) (hb8 : Below w7.drew.heap.size w7.drew w8) :
  Ko w s q (w8.alloc (.cells #[.int .u8 r.k, .string r.t, .int .i64 r.n, .int .i64 0] 158)) b g v acc r w8.heap.size := by
 have h8 := ((h.keep hb7).drew).keep hb8
 obtain ⟨o1, o2, o3, o4⟩ := h8.old
 exact ⟨h8.keep (Ad _), Ab w8 _, by omega, by omega, by omega, fun e => by have := o4 _ e; omega⟩
theorem Tryz.infoT : (Tryz.prog.info? 158).map (fun i => (i.zero, i.size, i.bytes)) = some (some (.agg #[.int .u8 0, .string ⟨#[]⟩, .int .i64 0, .int .i64 0]), 4, 40) := by kernel_rfl
theorem Py (w : World) (v0 v1 v2 v3 : Value) (T : TypeId) : ∀ j u, [v0, v1, v2, v3][j]? = some u → (w.alloc (.cells #[v0, v1, v2, v3] T)).cell? ((⟨w.heap.size, 0, none⟩ : Addr).add j) = some u := by
 intro j u h
 obtain ⟨c0, c1, c2, c3, _⟩ := AH (Ab w (.cells #[v0, v1, v2, v3] T))
 rw [AS, Nat.zero_add]
 match j, h with
 | 0, h => cases h; exact c0
 | 1, h => cases h; exact c1
 | 2, h => cases h; exact c2
 | 3, h => cases h; exact c3
theorem Hw {w : World} {s : ByteArray} {q : Nat} {wz w2 : World} {b b' g g' cap : Nat} {v : Value} {acc : List TK} {tk : TK} {o : Obj} (h : LexAt w s q wz b g v acc) (hgrow : (wz.alloc o).grownBy w2 v.ownBlock) (hown : w2.ownsRow (w.heap.size + 1) 158 4 (.slice (some ⟨g', 0, none⟩) (acc.length + 1) cap) (acc.length + 1) (BL acc ++ tk.cells)) (hg' : v.ownBlock = some g' ∨ g' = wz.heap.size + 1) (hlt : g' < w2.heap.size) (hb : b < b') :
   LexAt w s q ((w2.setCell ⟨g, 0, none⟩ (.int .i64 b')).alloc (.cells #[.int .i64 b'] 3)) b' w2.heap.size (.slice (some ⟨g', 0, none⟩) (acc.length + 1) cap) (acc ++ [tk]) := by
 obtain ⟨h1, h2, h3, h4, h5, h6, h7, h8, h9, h10, h11, h12⟩ := h
 have l3 := lt_of_block h3
 have l1 := lt_of_block h1
 have hsz : wz.heap.size + 1 ≤ w2.heap.size := by have := hgrow.size; simpa using this
 have gb : ∀ k, k < wz.heap.size → some k ≠ v.ownBlock → w2.heap[k]? = wz.heap[k]? := fun k hk hne => (hgrow.block k (by simp; omega) hne).trans (Below.heap_alloc wz o k hk)
 have ob : ∀ k, v.ownBlock = some k → w.heap.size + 1 ≤ k ∧ k < wz.heap.size := fun k hk => h4.lt k hk
 have e1 : w2.heap[w.heap.size]? = wz.heap[w.heap.size]? := gb _ l1 (fun e => by have := ob _ e.symm; omega)
 have e3 : w2.heap[g]? = wz.heap[g]? := gb _ l3 (fun e => h5 e.symm)
 have eq' : w2.heap[q]? = wz.heap[q]? := gb _ h8 (fun e => h6 e.symm)
 have ng : g' ≠ g := by
   rcases hg' with e | e
   · intro e2; exact h5 (by rw [e, e2])
   · omega
 have nq : g' ≠ q := by
   rcases hg' with e | e
   · intro e2; exact h6 (by rw [e, e2])
   · omega
 have hssz : (w2.setCell ⟨g, 0, none⟩ (.int .i64 b')).heap.size = w2.heap.size := by simp [World.setCell]
 have hF : Forms w2 q := by
   obtain ⟨f0, f1, f2, f3, f4, f5, f6, f7⟩ := h2
   have f : ∀ o', w2.cell? ⟨q, o', none⟩ = wz.cell? ⟨q, o', none⟩ := fun o' => World.cell?_of_block (a := ⟨q, o', none⟩) eq'
   exact ⟨(f _).trans f0, (f _).trans f1, (f _).trans f2, (f _).trans f3, (f _).trans f4, (f _).trans f5, (f _).trans f6, (f _).trans f7⟩
 have hlast := Ab (w2.setCell ⟨g, 0, none⟩ (.int .i64 b')) (.cells #[.int .i64 b'] 3)
 rw [hssz] at hlast
 refine ⟨Af (B9 (by omega) (e1.trans h1)), (hF.set h9).keep (Ad _), hlast, ?_, ?_, ?_, h7, by simp; omega, by omega, by omega, by simp; omega, ?_⟩
 · have ho := Cq (u := .int .i64 b') (o := 0) hown (show (Value.slice (some ⟨g', 0, none⟩) (acc.length + 1) cap).ownBlock ≠ some g from fun e => ng (by cases e; rfl))
   have := ho.alloc (.cells #[.int .i64 b'] 3)
   rw [Hh, List.length_append]
   exact this
 · intro e
   have e2 : g' = w2.heap.size := Option.some.inj e
   omega
 · intro e; exact nq (Option.some.inj e)
 · refine Below.alloc ?_ (by rw [hssz]; omega) _
   refine Below.setCell ?_ (show w.heap.size ≤ g by omega) _
   exact ((h12.alloc (by omega) o).grown hgrow (by simp; omega) (fun k hk => by have := ob k hk; omega))
theorem LC {w : World} {s : ByteArray} {q : Nat} {wz w2 : World} {b g : Nat} {v : Value} {acc : List TK} {o : Obj} (h : LexAt w s q wz b g v acc) (hgrow : (wz.alloc o).grownBy w2 v.ownBlock) : w2.heap[g]? = some (.cells #[.int .i64 b] 3 (0, 0)) := by
 obtain ⟨h1, h2, h3, h4, h5, h6, h7, h8, h9, h10, h11, h12⟩ := h
 have l3 := lt_of_block h3
 exact ((hgrow.block g (by simp; omega) (fun e => h5 e.symm)).trans (Below.heap_alloc wz o g l3)).trans h3
theorem PZ (j : Nat) (x : ByteArray) (c : UInt8) (w : World) (hx : x.size ≤ LIM) (h1 : 1 ≤ x.size) (hL : Laid w) (hj : Cr c = j) :
   (j = 0 → Calls Tryz.prog 110 #[.string x] w fun e w' => e = .returned (B0 x c).val ∧ Below w.heap.size w w') ∧ (j = 1 → Calls Tryz.prog 112 #[.string x] w fun e w' => e = .returned (B0 x c).val ∧ Below w.heap.size w w') ∧
   (j = 2 → Calls Tryz.prog 114 #[.string x] w fun e w' => e = .returned (B0 x c).val ∧ Below w.heap.size w w') ∧ (j = 3 → Calls Tryz.prog 116 #[.string x] w fun e w' => e = .returned (B0 x c).val ∧ Below w.heap.size w w') := by
 refine ⟨fun h => ?_, fun h => ?_, fun h => ?_, fun h => ?_⟩ <;> subst h
 · have e : B0 x c = ID x := by unfold B0; rw [if_pos hj]
   rw [e]; exact Q8 x w hx
 · have e : B0 x c = KY x := by unfold B0; rw [if_neg (by omega), if_pos hj]
   rw [e]; exact MU x w hx hL
 · have e : B0 x c = GG x := by unfold B0; rw [if_neg (by omega), if_neg (by omega), if_pos hj]
   rw [e]; exact Qv x w hx h1 hL
 · have e : B0 x c = CZ x CN := by unfold B0; rw [if_neg (by omega), if_neg (by omega), if_neg (by omega)]
   rw [e]; exact Qj x w
theorem Px (c : UInt8) : Cr c ≤ 3 := by
 unfold Cr
 split
 · omega
 · split
   · omega
   · split <;> omega
set_option maxHeartbeats 4000000 in
set_option maxRecDepth 100000 in
theorem G5 (s : ByteArray) (w : World) (hs : s.size ≤ LIM) (hL : Laid w) : Calls Tryz.prog 63 #[.string s] w (QL w (DL s)) := by
 unfold LIM at hs
 by_cases hbig : 16384 < s.size
 · have e : DL s = .error (4, 0) := if_pos hbig
   rw [e]
   have d1 : decide ((16384 : Int) < (s.size : Int)) = true := by simp; omega
   go_enter Tryz.func63, Tryz.ntmps63
   go_wp2
   go_ret3
   exact ⟨Ad _, rfl⟩
 · obtain ⟨R, hR⟩ : ∃ R, EW s (s.size + 1) 0 [] = R := ⟨_, rfl⟩
   have e : DL s = R := (if_neg hbig).trans hR
   rw [e]
   have d1 : decide ((16384 : Int) < (s.size : Int)) = false := by simp; omega
   have HR := Lib.hid hR
   have HL := Lib.hid hL
   clear e hR hL hbig
   have hP0 := Ab w (.cells #[.string s] 9)
   have hD0 := Ad (w := w) (.cells #[.string s] 9)
   go_enter Tryz.func63, Tryz.ntmps63
   go_wp2_with (go_at_call 81; refine (NH _).mono ?_; rintro e w1 ⟨q, rfl, hq, hql, hqg, hb1⟩)
   have hP1 := blk hb1 hP0
   have hD1 := Aa hD0 hD0.size hb1
   have hg0 := Ab w1 (.cells #[.int .i64 0] 3)
   have hAt : LexAt w s q (w1.alloc (.cells #[.int .i64 (0 : Nat)] 3)) 0 w1.heap.size (.slice none 0 0) [] :=
    ⟨Af hP1, hq.keep (Ad _), hg0, World.ownsRow_nil _ _ _ _, by simp [Value.ownBlock], by simp [Value.ownBlock], by have := hD0.size; simp at hqg; omega, by simp; omega, by omega, by have := hb1.size; have := hD0.size; simp at *; omega, Nat.le_refl _, Aa hD1 hD1.size (Ad _)⟩
   have HAT := Lib.hid hAt
   clear hAt hP0 hD0 hP1 hD1 hg0 hq hql hqg hb1
   go_loopw [5, 7] (fun s5 s7 wr => ∃ (a f : Nat) (acc : List TK) (g : Nat) (v : Value), s5 = v ∧ s7 = .pointer (some ⟨g, 0, none⟩) ∧ a ≤ s.size ∧ s.size - a < f ∧ Hid (EW s f a acc = R) ∧ LexAt w s q wr a g v acc) (fun _ s7 wr => s.size - Pg s7 wr)
   case atStart => exact ⟨0, s.size + 1, [], _, _, rfl, rfl, Nat.zero_le _, by omega, HR, HAT.out⟩
   case round =>
    clear HR HAT
    obtain ⟨a, f, acc, g, v, e5, rfl, ha, hf, HN, hAt⟩ := hrel
    have e5 := e5.symm
    subst e5
    obtain ⟨hP, hQ, hG, hO, hne1, hne2, hpq, hql, hqg, hpg, hacc, hD⟩ := hAt
    obtain ⟨f, rfl⟩ : ∃ m, f = m + 1 := ⟨f - 1, by omega⟩
    obtain ⟨p0, p1⟩ := D8 hP
    obtain ⟨g0, g1⟩ := D8 hG
    have HSP := Lib.hid (fun w' : World => Oz (s.extract a s.size) w' (by rw [ByteArray.size_extract]; omega))
    have hrl := GE AY (s.data.toList.drop a)
    rw [EE] at HSP
    obtain ⟨n, hn⟩ : ∃ n, AA AY (s.data.toList.drop a) = n := ⟨_, rfl⟩
    rw [hn] at HSP hrl
    have hrl2 : a + n ≤ s.size := by simp at hrl; have h3 : s.data.size = s.size := rfl; omega
    obtain ⟨b, hb⟩ : ∃ b, a + n = b := ⟨_, rfl⟩
    have hM : (a : Int) + (n : Int) = (b : Int) := by omega
    have hW : IntKind.i64.wrap (b : Int) = (b : Int) := IntWalk.i64_in _ (by omega)
    have HNB : Hid (a + AA AY (s.data.toList.drop a) = b) := Lib.hid (by rw [hn, hb])
    have hbs : b ≤ s.size := by omega
    have hab : a ≤ b := by omega
    have HGA := Lib.hid (Md hG)
    have HG := Lib.hid hG
    have HP := Lib.hid hP
    have HQ := Lib.hid hQ
    have HO := Lib.hid hO
    have HD := Lib.hid hD
    clear hG hP hQ hO hD hn hb hrl hrl2
    go_upto_region 6 with (fail)
    go_cut [5, 7] (fun s5 s7 wx => s5 = v ∧ s7 = .pointer (some ⟨g, 0, none⟩) ∧ LexAt w s q wx b g v acc)
    case first =>
     refine Bg 6 1 #[true, true, true, true, true, true, false] (fun w' => w' = wr.drew) (by kernel_rfl) (by simp only [List.take_succ_cons, List.take_zero]; rfl) (by kernel_rfl) (by kernel_rfl) (by kernel_rfl) ?_ ?_
     · rfl
     repeat
       first
       | go_big_quiet_skip
       | go_big_quiet_want
         apply Exists.intro
         refine ⟨fun wq hC => ?_, ?_⟩
         · subst hC
           unfold Oper.quietAt
           go_simp
           first
           | rfl
           | exact ⟨rfl, rfl⟩
           | (go_at_call 82; refine (HSP.out _).mono ?_; rintro e w7 ⟨rfl, rfl⟩; with_reducible exact ⟨rfl, rfl⟩)
         (try simp only [Act.put, List.setIfInBounds_toArray, List.set_cons_zero, List.set_cons_succ])
         go_big_quiet_on
     refine wpQuiet_nil ?_
     rintro wy rfl
     refine Bl 6 _ (by kernel_rfl) (by rfl) (by rfl) (fun K hK => ?_)
     go_simp
     refine hK _ _ ?_
     clear hK K
     refine Dh (by kernel_rfl) ?_
     go_wp2_with fail
     go_meet
     exact ⟨rfl, rfl, (LexAt.move ⟨HP.out, HQ.out, HG.out, HO.out, hne1, hne2, hpq, hql, hqg, hpg, hacc, HD.out⟩ hab).drew⟩
    case rest =>
     obtain ⟨e5, rfl, hAt⟩ := hcut
     have e5 := e5.symm
     subst e5
     clear HP HQ HG HO HD hM hW p0 p1 g0 g1 HSP
     have HAT := Lib.hid hAt
     obtain ⟨hP, hQ, hG, hO, hne1', hne2', hpq', hql', hqg', hpg', hacc', hD⟩ := hAt
     obtain ⟨p0, p1⟩ := D8 hP
     obtain ⟨g0, g1⟩ := D8 hG
     obtain ⟨f0, f1, f2, f3, f4, f5, f6, f7⟩ := hQ
     have hsz0 := hD.size
     clear hP hG hO hne1' hne2' hpq' hqg' hpg' hacc' hql
     by_cases hend : b = s.size
     · have HN2 : Hid (R = .ok acc) := Lib.hid (by rw [← HN.out, Gl HNB.out rfl, if_pos hend])
       have g2 : (b == s.size) = true := by simpa using hend
       have g3 : ((b : Int) == (s.size : Int)) = true := by simp [hend]
       clear hend hD
       go_wp2_with fail
       go_ret3
       obtain ⟨_, _, _, hO, _, _, _, _, _, _, _, hD⟩ := HAT.out
       refine ⟨hD, ?_⟩
       rw [HN2.out]
       exact ⟨_, rfl, DF hO (by omega)⟩
     · have hlt : b < s.size := by omega
       have g2 : (b == s.size) = false := by simpa using hend
       have g3 : ((b : Int) == (s.size : Int)) = false := by simp; omega
       obtain ⟨c, hc⟩ : ∃ c, s[b] = c := ⟨_, rfl⟩
       have HFF := Lib.hid (K8 s b w.heap.size g q wc hlt hs p0 g0 HAT.out.2.1)
       rw [hc] at HFF
       have hxs : (s.extract b s.size).size = s.size - b := by rw [ByteArray.size_extract]; omega
       have hxh : (s.extract b s.size).data.toList.head? = some c := by rw [EE, Gh, dif_pos hlt, hc]
       have hgd : s.data.toList.getD b 0 = c := by rw [← hc]; simp [List.getD, hlt]; rfl
       obtain ⟨r, hr⟩ : ∃ r, B0 (s.extract b s.size) c = r := ⟨_, rfl⟩
       have hstep : (if r.why ≠ 0 then Except.error (r.why, b) else EW s f (b + r.len.toNat) (acc ++ [⟨r.k, r.t, r.n, (b : Nat)⟩])) = R := by rw [← HN.out, Gl (r := r) HNB.out (by rw [hgd]; exact hr), if_neg hend]
       have hlen := fun h => JD hxh (by rw [hr]; exact h)
       rw [hr] at hlen
       have HRD : Hid (∀ (w' : World), Below w.heap.size w w' → _) := Lib.hid (fun w' hb => PZ (Cr c) (s.extract b s.size) c w' (by unfold LIM; omega) (by omega) (HL.out.below hb) rfl)
       rw [hr] at HRD
       have HSTEP := Lib.hid hstep
       have HLEN := Lib.hid hlen
       have HXS := Lib.hid hxs
       have HD := Lib.hid hD
       clear hend hc hxs hxh hgd hr hstep hlen HN hD
       have b0 : (0 : Int) ≤ (b : Int) := by omega
       have hfi := Px c
       generalize Cr c = j at *
       have HJ : Hid (∀ (w' : World), Below w.heap.size w w' → j ≤ 3) := Lib.hid (fun _ _ => hfi)
       go_wp2_with (go_at_call 84; refine (HFF.out).mono ?_; rintro e w7 ⟨rfl, hb7⟩)
       have hb7d := (Aa HD.out HD.out.size hb7).drew
       have HB7 := Lib.hid hb7
       replace p0 := Ac hb7 p0
       replace g0 := Ac hb7 g0
       replace f0 := Ac hb7 f0
       replace f1 := Ac hb7 f1
       replace f2 := Ac hb7 f2
       replace f3 := Ac hb7 f3
       replace f4 := Ac hb7 f4
       replace f5 := Ac hb7 f5
       replace f6 := Ac hb7 f6
       replace f7 := Ac hb7 f7
       clear hb7
       have l70 : w.heap.size < w7.heap.size := by have := HAT.out.old; have := HB7.out.size; omega
       have l7g : g < w7.heap.size := by have := HAT.out.old; have := HB7.out.size; omega
       have l7q : q < w7.heap.size := by have := HAT.out.old; have := HB7.out.size; omega
       have hTK7 : (w7.alloc (.cells #[.int .u8 0, .string ⟨#[]⟩, .int .i64 0, .int .i64 0] 158)).drew.heap[w7.heap.size]? = some (.cells #[.int .u8 0, .string ⟨#[]⟩, .int .i64 0, .int .i64 0] 158 (0, 0)) := Ab w7 _
       go_upto_region 10 with (fail)
       go_cut [9, 10, 11] (fun s9 s10 s11 wx => ∃ gt, s9 = .pointer (some ⟨gt, 0, none⟩) ∧ s10 = .int .i64 r.len ∧ s11 = .int .i64 r.why ∧ Ko w s q wx b g v acc r gt)
       case first =>
         obtain rfl | rfl | rfl | rfl : j = 0 ∨ j = 1 ∨ j = 2 ∨ j = 3 := by omega
         · have HRJ : Hid (∀ (w' : World), Below w.heap.size w w' → Calls Tryz.prog 110 #[.string (s.extract b s.size)] w' fun e w2 => e = .returned (.tuple #[.agg #[.int .u8 r.k, .string r.t, .int .i64 r.n, .int .i64 0], .int .i64 r.len, .int .i64 r.why]) ∧ Below w'.heap.size w' w2) := Lib.hid (fun w' hb => (HRD.out w' hb).1 rfl)
           clear HRD HJ HFF
           have hdd := (Below.refl w7.heap.size w7).drew
           have hdn := (Ad (w := w7) (.cells #[.int .u8 0, .string ⟨#[]⟩, .int .i64 0, .int .i64 0] 158)).drew
           have hb7n := (Aa (Aa HD.out HD.out.size HB7.out) (Aa HD.out HD.out.size HB7.out).size (Ad (w := w7) (.cells #[.int .u8 0, .string ⟨#[]⟩, .int .i64 0, .int .i64 0] 158))).drew
           go_region_held3 (fun w' => Below w7.heap.size w7 w' ∧ w'.cell? ⟨w.heap.size, 0, none⟩ = some (.string s) ∧ w'.cell? ⟨g, 0, none⟩ = some (.int .i64 b) ∧ w'.cell? ⟨q, 1, none⟩ = some (.func (.func 110) #[] #[]))
             (first | (with_reducible exact ⟨hdd, Ac hdd p0, Ac hdd g0, Ac hdd f1⟩) | (with_reducible exact ⟨hdn, Ac hdn p0, Ac hdn g0, Ac hdn f1⟩) | (with_reducible exact HS8.out) | (obtain ⟨s0, s1, s2, s3⟩ := HS8.out; have hbn := Ad (w := w8) (.cells #[.int .u8 0, .string ⟨#[]⟩, .int .i64 0, .int .i64 0] 158); with_reducible exact ⟨Aa s0 s0.size hbn, Ac hbn s1, Ac hbn s2, Ac hbn s3⟩) | (obtain ⟨s0, s1, s2, s3⟩ := HS8.out; have hbn := Ad (w := w8) (.cells #[.int .u8 r.k, .string r.t, .int .i64 r.n, .int .i64 0] 158); with_reducible exact ⟨Aa s0 s0.size hbn, Ac hbn s1, Ac hbn s2, Ac hbn s3⟩) | (obtain ⟨s0, s1, s2, s3⟩ := HS8.out; exact ⟨Ag (Nat.le_refl _) [_, _, _, _] 0 w8 s0, (Ar (Nat.ne_of_lt l70) [_, _, _, _] 0 0 w8).trans s1, (Ar (Nat.ne_of_lt l7g) [_, _, _, _] 0 0 w8).trans s2, (Ar (Nat.ne_of_lt l7q) [_, _, _, _] 0 _ w8).trans s3⟩))
             ((go_at_call 110; refine (HRJ.out _ (by first | with_reducible exact hb7d | with_reducible exact hb7n)).mono ?_; rintro e w8 ⟨rfl, hb8⟩; have l8 := hb8.size; have HS8 : Hid (Below w7.heap.size w7 w8 ∧ w8.cell? ⟨w.heap.size, 0, none⟩ = some (.string s) ∧ w8.cell? ⟨g, 0, none⟩ = some (.int .i64 b) ∧ w8.cell? ⟨q, 1, none⟩ = some (.func (.func 110) #[] #[])) := Lib.hid (by first | with_reducible exact ⟨Aa hdd hdd.size hb8, Ac hb8 (Ac hdd p0), Ac hb8 (Ac hdd g0), Ac hb8 (Ac hdd f1)⟩ | with_reducible exact ⟨Aa hdn hdn.size hb8, Ac hb8 (Ac hdn p0), Ac hb8 (Ac hdn g0), Ac hb8 (Ac hdn f1)⟩); first | (have y8 : w8.heap[w7.heap.size]? = some (.cells #[.int .u8 0, .string ⟨#[]⟩, .int .i64 0, .int .i64 0] 158 (0, 0)) := (by with_reducible exact blk hb8 hTK7); obtain ⟨y0, y1, y2, y3, y4⟩ := AH y8) | skip))
           all_goals (go_wp2_with fail; go_meet; first | (have hx := DA (r := r) HAT.out HB7.out (by with_reducible exact hb8); exact ⟨_, rfl, rfl, rfl, hx⟩) | (have hx := Eb (r := r) HAT.out HB7.out (by with_reducible exact hb8); exact ⟨_, rfl, rfl, rfl, hx⟩))
         · have HRJ : Hid (∀ (w' : World), Below w.heap.size w w' → Calls Tryz.prog 112 #[.string (s.extract b s.size)] w' fun e w2 => e = .returned (.tuple #[.agg #[.int .u8 r.k, .string r.t, .int .i64 r.n, .int .i64 0], .int .i64 r.len, .int .i64 r.why]) ∧ Below w'.heap.size w' w2) := Lib.hid (fun w' hb => (HRD.out w' hb).2.1 rfl)
           clear HRD HJ HFF
           have hdd := (Below.refl w7.heap.size w7).drew
           have hdn := (Ad (w := w7) (.cells #[.int .u8 0, .string ⟨#[]⟩, .int .i64 0, .int .i64 0] 158)).drew
           have hb7n := (Aa (Aa HD.out HD.out.size HB7.out) (Aa HD.out HD.out.size HB7.out).size (Ad (w := w7) (.cells #[.int .u8 0, .string ⟨#[]⟩, .int .i64 0, .int .i64 0] 158))).drew
           go_region_held3 (fun w' => Below w7.heap.size w7 w' ∧ w'.cell? ⟨w.heap.size, 0, none⟩ = some (.string s) ∧ w'.cell? ⟨g, 0, none⟩ = some (.int .i64 b) ∧ w'.cell? ⟨q, 3, none⟩ = some (.func (.func 112) #[] #[]))
             (first | (with_reducible exact ⟨hdd, Ac hdd p0, Ac hdd g0, Ac hdd f3⟩) | (with_reducible exact ⟨hdn, Ac hdn p0, Ac hdn g0, Ac hdn f3⟩) | (with_reducible exact HS8.out) | (obtain ⟨s0, s1, s2, s3⟩ := HS8.out; have hbn := Ad (w := w8) (.cells #[.int .u8 0, .string ⟨#[]⟩, .int .i64 0, .int .i64 0] 158); with_reducible exact ⟨Aa s0 s0.size hbn, Ac hbn s1, Ac hbn s2, Ac hbn s3⟩) | (obtain ⟨s0, s1, s2, s3⟩ := HS8.out; have hbn := Ad (w := w8) (.cells #[.int .u8 r.k, .string r.t, .int .i64 r.n, .int .i64 0] 158); with_reducible exact ⟨Aa s0 s0.size hbn, Ac hbn s1, Ac hbn s2, Ac hbn s3⟩) | (obtain ⟨s0, s1, s2, s3⟩ := HS8.out; exact ⟨Ag (Nat.le_refl _) [_, _, _, _] 0 w8 s0, (Ar (Nat.ne_of_lt l70) [_, _, _, _] 0 0 w8).trans s1, (Ar (Nat.ne_of_lt l7g) [_, _, _, _] 0 0 w8).trans s2, (Ar (Nat.ne_of_lt l7q) [_, _, _, _] 0 _ w8).trans s3⟩))
             ((go_at_call 112; refine (HRJ.out _ (by first | with_reducible exact hb7d | with_reducible exact hb7n)).mono ?_; rintro e w8 ⟨rfl, hb8⟩; have l8 := hb8.size; have HS8 : Hid (Below w7.heap.size w7 w8 ∧ w8.cell? ⟨w.heap.size, 0, none⟩ = some (.string s) ∧ w8.cell? ⟨g, 0, none⟩ = some (.int .i64 b) ∧ w8.cell? ⟨q, 3, none⟩ = some (.func (.func 112) #[] #[])) := Lib.hid (by first | with_reducible exact ⟨Aa hdd hdd.size hb8, Ac hb8 (Ac hdd p0), Ac hb8 (Ac hdd g0), Ac hb8 (Ac hdd f3)⟩ | with_reducible exact ⟨Aa hdn hdn.size hb8, Ac hb8 (Ac hdn p0), Ac hb8 (Ac hdn g0), Ac hb8 (Ac hdn f3)⟩); first | (have y8 : w8.heap[w7.heap.size]? = some (.cells #[.int .u8 0, .string ⟨#[]⟩, .int .i64 0, .int .i64 0] 158 (0, 0)) := (by with_reducible exact blk hb8 hTK7); obtain ⟨y0, y1, y2, y3, y4⟩ := AH y8) | skip))
           all_goals (go_wp2_with fail; go_meet; first | (have hx := DA (r := r) HAT.out HB7.out (by with_reducible exact hb8); exact ⟨_, rfl, rfl, rfl, hx⟩) | (have hx := Eb (r := r) HAT.out HB7.out (by with_reducible exact hb8); exact ⟨_, rfl, rfl, rfl, hx⟩))
         · have HRJ : Hid (∀ (w' : World), Below w.heap.size w w' → Calls Tryz.prog 114 #[.string (s.extract b s.size)] w' fun e w2 => e = .returned (.tuple #[.agg #[.int .u8 r.k, .string r.t, .int .i64 r.n, .int .i64 0], .int .i64 r.len, .int .i64 r.why]) ∧ Below w'.heap.size w' w2) := Lib.hid (fun w' hb => (HRD.out w' hb).2.2.1 rfl)
           clear HRD HJ HFF
           have hdd := (Below.refl w7.heap.size w7).drew
           have hdn := (Ad (w := w7) (.cells #[.int .u8 0, .string ⟨#[]⟩, .int .i64 0, .int .i64 0] 158)).drew
           have hb7n := (Aa (Aa HD.out HD.out.size HB7.out) (Aa HD.out HD.out.size HB7.out).size (Ad (w := w7) (.cells #[.int .u8 0, .string ⟨#[]⟩, .int .i64 0, .int .i64 0] 158))).drew
           go_region_held3 (fun w' => Below w7.heap.size w7 w' ∧ w'.cell? ⟨w.heap.size, 0, none⟩ = some (.string s) ∧ w'.cell? ⟨g, 0, none⟩ = some (.int .i64 b) ∧ w'.cell? ⟨q, 5, none⟩ = some (.func (.func 114) #[] #[]))
             (first | (with_reducible exact ⟨hdd, Ac hdd p0, Ac hdd g0, Ac hdd f5⟩) | (with_reducible exact ⟨hdn, Ac hdn p0, Ac hdn g0, Ac hdn f5⟩) | (with_reducible exact HS8.out) | (obtain ⟨s0, s1, s2, s3⟩ := HS8.out; have hbn := Ad (w := w8) (.cells #[.int .u8 0, .string ⟨#[]⟩, .int .i64 0, .int .i64 0] 158); with_reducible exact ⟨Aa s0 s0.size hbn, Ac hbn s1, Ac hbn s2, Ac hbn s3⟩) | (obtain ⟨s0, s1, s2, s3⟩ := HS8.out; have hbn := Ad (w := w8) (.cells #[.int .u8 r.k, .string r.t, .int .i64 r.n, .int .i64 0] 158); with_reducible exact ⟨Aa s0 s0.size hbn, Ac hbn s1, Ac hbn s2, Ac hbn s3⟩) | (obtain ⟨s0, s1, s2, s3⟩ := HS8.out; exact ⟨Ag (Nat.le_refl _) [_, _, _, _] 0 w8 s0, (Ar (Nat.ne_of_lt l70) [_, _, _, _] 0 0 w8).trans s1, (Ar (Nat.ne_of_lt l7g) [_, _, _, _] 0 0 w8).trans s2, (Ar (Nat.ne_of_lt l7q) [_, _, _, _] 0 _ w8).trans s3⟩))
             ((go_at_call 114; refine (HRJ.out _ (by first | with_reducible exact hb7d | with_reducible exact hb7n)).mono ?_; rintro e w8 ⟨rfl, hb8⟩; have l8 := hb8.size; have HS8 : Hid (Below w7.heap.size w7 w8 ∧ w8.cell? ⟨w.heap.size, 0, none⟩ = some (.string s) ∧ w8.cell? ⟨g, 0, none⟩ = some (.int .i64 b) ∧ w8.cell? ⟨q, 5, none⟩ = some (.func (.func 114) #[] #[])) := Lib.hid (by first | with_reducible exact ⟨Aa hdd hdd.size hb8, Ac hb8 (Ac hdd p0), Ac hb8 (Ac hdd g0), Ac hb8 (Ac hdd f5)⟩ | with_reducible exact ⟨Aa hdn hdn.size hb8, Ac hb8 (Ac hdn p0), Ac hb8 (Ac hdn g0), Ac hb8 (Ac hdn f5)⟩); first | (have y8 : w8.heap[w7.heap.size]? = some (.cells #[.int .u8 0, .string ⟨#[]⟩, .int .i64 0, .int .i64 0] 158 (0, 0)) := (by with_reducible exact blk hb8 hTK7); obtain ⟨y0, y1, y2, y3, y4⟩ := AH y8) | skip))
           all_goals (go_wp2_with fail; go_meet; first | (have hx := DA (r := r) HAT.out HB7.out (by with_reducible exact hb8); exact ⟨_, rfl, rfl, rfl, hx⟩) | (have hx := Eb (r := r) HAT.out HB7.out (by with_reducible exact hb8); exact ⟨_, rfl, rfl, rfl, hx⟩))
         · have HRJ : Hid (∀ (w' : World), Below w.heap.size w w' → Calls Tryz.prog 116 #[.string (s.extract b s.size)] w' fun e w2 => e = .returned (.tuple #[.agg #[.int .u8 r.k, .string r.t, .int .i64 r.n, .int .i64 0], .int .i64 r.len, .int .i64 r.why]) ∧ Below w'.heap.size w' w2) := Lib.hid (fun w' hb => (HRD.out w' hb).2.2.2 rfl)
           clear HRD HJ HFF
           have hdd := (Below.refl w7.heap.size w7).drew
           have hdn := (Ad (w := w7) (.cells #[.int .u8 0, .string ⟨#[]⟩, .int .i64 0, .int .i64 0] 158)).drew
           have hb7n := (Aa (Aa HD.out HD.out.size HB7.out) (Aa HD.out HD.out.size HB7.out).size (Ad (w := w7) (.cells #[.int .u8 0, .string ⟨#[]⟩, .int .i64 0, .int .i64 0] 158))).drew
           go_region_held3 (fun w' => Below w7.heap.size w7 w' ∧ w'.cell? ⟨w.heap.size, 0, none⟩ = some (.string s) ∧ w'.cell? ⟨g, 0, none⟩ = some (.int .i64 b) ∧ w'.cell? ⟨q, 7, none⟩ = some (.func (.func 116) #[] #[]))
             (first | (with_reducible exact ⟨hdd, Ac hdd p0, Ac hdd g0, Ac hdd f7⟩) | (with_reducible exact ⟨hdn, Ac hdn p0, Ac hdn g0, Ac hdn f7⟩) | (with_reducible exact HS8.out) | (obtain ⟨s0, s1, s2, s3⟩ := HS8.out; have hbn := Ad (w := w8) (.cells #[.int .u8 0, .string ⟨#[]⟩, .int .i64 0, .int .i64 0] 158); with_reducible exact ⟨Aa s0 s0.size hbn, Ac hbn s1, Ac hbn s2, Ac hbn s3⟩) | (obtain ⟨s0, s1, s2, s3⟩ := HS8.out; have hbn := Ad (w := w8) (.cells #[.int .u8 r.k, .string r.t, .int .i64 r.n, .int .i64 0] 158); with_reducible exact ⟨Aa s0 s0.size hbn, Ac hbn s1, Ac hbn s2, Ac hbn s3⟩) | (obtain ⟨s0, s1, s2, s3⟩ := HS8.out; exact ⟨Ag (Nat.le_refl _) [_, _, _, _] 0 w8 s0, (Ar (Nat.ne_of_lt l70) [_, _, _, _] 0 0 w8).trans s1, (Ar (Nat.ne_of_lt l7g) [_, _, _, _] 0 0 w8).trans s2, (Ar (Nat.ne_of_lt l7q) [_, _, _, _] 0 _ w8).trans s3⟩))
             ((go_at_call 116; refine (HRJ.out _ (by first | with_reducible exact hb7d | with_reducible exact hb7n)).mono ?_; rintro e w8 ⟨rfl, hb8⟩; have l8 := hb8.size; have HS8 : Hid (Below w7.heap.size w7 w8 ∧ w8.cell? ⟨w.heap.size, 0, none⟩ = some (.string s) ∧ w8.cell? ⟨g, 0, none⟩ = some (.int .i64 b) ∧ w8.cell? ⟨q, 7, none⟩ = some (.func (.func 116) #[] #[])) := Lib.hid (by first | with_reducible exact ⟨Aa hdd hdd.size hb8, Ac hb8 (Ac hdd p0), Ac hb8 (Ac hdd g0), Ac hb8 (Ac hdd f7)⟩ | with_reducible exact ⟨Aa hdn hdn.size hb8, Ac hb8 (Ac hdn p0), Ac hb8 (Ac hdn g0), Ac hb8 (Ac hdn f7)⟩); first | (have y8 : w8.heap[w7.heap.size]? = some (.cells #[.int .u8 0, .string ⟨#[]⟩, .int .i64 0, .int .i64 0] 158 (0, 0)) := (by with_reducible exact blk hb8 hTK7); obtain ⟨y0, y1, y2, y3, y4⟩ := AH y8) | skip))
           all_goals (go_wp2_with fail; go_meet; first | (have hx := DA (r := r) HAT.out HB7.out (by with_reducible exact hb8); exact ⟨_, rfl, rfl, rfl, hx⟩) | (have hx := Eb (r := r) HAT.out HB7.out (by with_reducible exact hb8); exact ⟨_, rfl, rfl, rfl, hx⟩))
       case rest =>
         obtain ⟨gt, rfl, rfl, rfl, hLA, hTk, ng1, ng2, ng3, ng4⟩ := hcut
         clear HFF HRD HJ HAT HB7 hb7d p0 p1 g0 g1 f0 f1 f2 f3 f4 f5 f6 f7 l70 l7g l7q hTK7
         have HLA := Lib.hid hLA
         obtain ⟨hP, hQ, hG, hO, hm1, hm2, hm3, hm4, hm5, hm6, hm7, hD⟩ := hLA
         obtain ⟨p0, p1⟩ := D8 hP
         obtain ⟨g0, g1⟩ := D8 hG
         obtain ⟨t0, t1, t2, t3, t4⟩ := AH hTk
         by_cases hwhy : r.why = 0
         · have hlen := HLEN.out hwhy
           have hst := HSTEP.out
           rw [if_neg (by simp [hwhy])] at hst
           obtain ⟨m, hm⟩ := Int.eq_ofNat_of_zero_le (show 0 ≤ r.len by omega)
           have g6 : (r.why != 0) = false := by simp [hwhy]
           have hz0 := hwhy
           rw [HXS.out] at hlen
           have hm1' : 1 ≤ m := by omega
           have hbm : b + m ≤ s.size := by omega
           rw [hm, Int.toNat_natCast] at hst
           obtain ⟨b', hb'⟩ : ∃ b', b + m = b' := ⟨_, rfl⟩
           rw [hb'] at hst
           have hM : (b : Int) + (m : Int) = (b' : Int) := by omega
           have hW : IntKind.i64.wrap (b' : Int) = (b' : Int) := IntWalk.i64_in _ (by omega)
           have hbb : b < b' := by omega
           have hbs' : b' ≤ s.size := by omega
           have HST := Lib.hid hst
           have HTK := Lib.hid hTk
           clear hst hlen hb' hP hQ hG hO hm1 hm2 hm3 hm4 hm5 hm6 hTk hD hwhy
           go_upto_region 14 with (fail)
           have hLz := (LexAt.sets [.int .i64 (b : Int)] (o := 3) HLA.out ng3 ng2 ng1 ng4)
           have hTz : (wc.setCells gt 3 [.int .i64 (b : Int)]).heap[gt]? = some (.cells #[.int .u8 r.k, .string r.t, .int .i64 r.n, .int .i64 b] 158 (0, 0)) := heap_setCell_same _ _ 3 _ _ _ HTK.out
           change LexAt w s q (wc.setCell ⟨gt, 3, none⟩ (.int .i64 (b : Int))) b g v acc at hLz
           change (wc.setCell ⟨gt, 3, none⟩ (.int .i64 (b : Int))).heap[gt]? = _ at hTz
           generalize wc.setCell ⟨gt, 3, none⟩ (.int .i64 (b : Int)) = wz at *
           have HLZ := Lib.hid hLz
           obtain ⟨hP, hQ, hG, hO, hm1, hm2, hm3, hm4, hm5, hm6, hm7', hD⟩ := hLz
           clear t0 t1 t2 t3 t4 p0 p1 g0 g1
           obtain ⟨t0, t1, t2, t3, t4⟩ := AH hTz
           obtain ⟨i0, hi0, hz00, hz1, hz2⟩ := info_parts Tryz.infoT
           have HO := Lib.hid hO
           have HG := Lib.hid hG
           have HDz := Lib.hid hD
           have HAC := Lib.hid hm7'
           clear hP hQ hG hm1 hm2 hm3 hm4 hm5 hm6 hm7' hm7 hTz hD HLA HTK
           go_wp2_with (at_builtin; refine wpList_append_lies _ rfl _ _ 122 rfl (w.heap.size + 1) 158 i0 (.agg #[.int .u8 0, .string ⟨#[]⟩, .int .i64 0, .int .i64 0]) 4 40 Tryz.underlying122 hi0 hz00 hz1 hz2 rfl (by decide) v acc.length (BL acc) (by rfl) (hO.alloc _) ⟨wz.heap.size, 0, none⟩ 1 1 [.int .u8 r.k, .string r.t, .int .i64 r.n, .int .i64 b] (by rfl) rfl (Py wz _ _ _ _ _) (by intro u hu; simp only [List.mem_cons, List.not_mem_nil, or_false] at hu; rcases hu with rfl | rfl | rfl | rfl <;> rfl) (by decide) (by have := HAC.out; unfold maxLen; omega) (by have := HAC.out; omega) (by have := HDz.out.size; simp; have := HLZ.out.old; omega) (wz.heap.size + 1) (by simp) ?_; intro g' cap w2 hown hgrow hat hlt2; have hg2 := LC HLZ.out hgrow; obtain ⟨k0, k1⟩ := D8 hg2; have hnext := Lib.hid (Hw (tk := ⟨r.k, r.t, r.n, (b : Int)⟩) HLZ.out hgrow hown hat hlt2 hbb); have hsame := Lib.hid hg2)
           go_roundw
           case rel => exact ⟨b', f, acc ++ [⟨r.k, r.t, r.n, (b : Int)⟩], w2.heap.size, _, rfl, rfl, hbs', by omega, HST, Hw (tk := ⟨r.k, r.t, r.n, (b : Int)⟩) HLZ.out hgrow hown hat hlt2 hbb⟩
           case measure =>
             have h1 := HGA.out
             have h2 := (Hw (tk := ⟨r.k, r.t, r.n, (b : Int)⟩) HLZ.out hgrow hown hat hlt2 hbb).2.2.1
             rw [h1, Md h2]
             omega
         · have hst := HSTEP.out
           rw [if_pos (by simpa using hwhy)] at hst
           have g6 : (r.why != 0) = true := by simpa using hwhy
           have HST := Lib.hid hst
           have HD2 := Lib.hid hD
           clear hst hP hQ hG hO hm1 hm2 hm3 hm4 hm5 hm6 hm7 hTk hD hwhy
           go_wp2_with fail
           go_region
           all_goals
             go_wp2_with fail
             go_ret3
             refine ⟨HD2.out.drew, ?_⟩
             rw [← HST.out]
             rfl
end Go.Proofs.YtbemgcjckchdjaaGreatDoor
