import Derived.Test.YtbemgcjckchdjaaGreatDoorLCa
import Derived.Test.YtbemgcjckchdjaaGreatDoorLEk
import Derived.Deep.AppendLies
/- code.Compile (printed by gencomp.py). -/
namespace Go.Proofs.YtbemgcjckchdjaaGreatDoor
open Go.RowKit
set_option linter.unusedSimpArgs false
set_option linter.unusedVariables false
theorem Tryz.infoP : (Tryz.prog.info? 37).map (fun i => (i.zero, i.size, i.bytes)) = some (some (.slice none 0 0), 1, 24) := by kernel_rfl
theorem toGood.max {p : List IT} (h : toGood p) (hl : p.length ≤ 1000000) : GH p := fun x hx => by have := h x hx; omega
def ProgOut (wr wx : World) (p : List IT) (v : Value) : Prop := ∃ A c, v = .slice A p.length c ∧ p.length ≤ c ∧ RowI wx p A ∧ (∀ b o, A = some ⟨b, o, none⟩ → wr.heap.size ≤ b ∧ b < wx.heap.size) ∧ Below wr.heap.size wr wx
theorem ProgOut.of {wr w1 wx : World} {B : Nat} {p : List IT} {v : Value} (h : wx.ownsRow B 73 5 v p.length (AW p)) (hB : wr.heap.size ≤ B) (hb : Below wr.heap.size wr wx) : ProgOut wr wx p v := by
 obtain ⟨A, c, e, hc, hr, hn⟩ := Ol (n := 0) (cap := 0) h
 exact ⟨A, c, e, hc, hr, fun b o e => ⟨Nat.le_trans hB (hn b o e).1, (hn b o e).2⟩, hb⟩
def Km (w wr : World) (stk : List (List IT)) (sv : Value) : Prop :=
 ∃ vals, wr.ownsRow w.heap.size 37 1 sv stk.length vals ∧ (∀ u ∈ vals, u.oneCell' = true) ∧ (∀ j (h : j < stk.length), ∃ A c, vals[j]? = some (.slice A stk[j].length c) ∧ stk[j].length ≤ c ∧ RowI wr stk[j] A ∧ ∀ b o, A = some ⟨b, o, none⟩ → b < wr.heap.size ∧ sv.ownBlock ≠ some b) ∧ Below w.heap.size w wr
theorem Gd {w wr w9 w2 : World} {stk : List (List IT)} {g at' q r g' cap' : Nat} {vals : List Value} {p : List IT} {A9 : Option Addr} {c9 : Nat} {o : Obj} (hO : wr.ownsRow w.heap.size 37 1 (.slice (some ⟨g, 0, none⟩) (at' + q) (at' + r)) (at' + q) vals) (hfl : stk.length = at' + q) (hone : ∀ u ∈ vals, u.oneCell' = true)
   (hV : ∀ j (h : j < stk.length), ∃ A c, vals[j]? = some (.slice A stk[j].length c) ∧ stk[j].length ≤ c ∧ RowI wr stk[j] A ∧ ∀ b o, A = some ⟨b, o, none⟩ → b < wr.heap.size ∧ (Value.slice (some (⟨g, 0, none⟩ : Addr)) (at' + q) (at' + r)).ownBlock ≠ some b) (hB : Below w.heap.size w wr) (h9 : Below wr.heap.size wr w9)
   (hc9 : p.length ≤ c9) (hr9 : RowI w9 p A9) (hn9 : ∀ b o, A9 = some ⟨b, o, none⟩ → wr.heap.size ≤ b ∧ b < w9.heap.size)
   (hgrow : (w9.alloc o).grownBy w2 (Value.slice (some ⟨g, 0, none⟩) at' (at' + r)).ownBlock) (hown : w2.ownsRow w.heap.size 37 1 (.slice (some ⟨g', 0, none⟩) (at' + 1) cap') (at' + 1) (vals.take at' ++ [.slice A9 p.length c9])) (hat : (Value.slice (some ⟨g, 0, none⟩) at' (at' + r)).ownBlock = some g' ∨ g' = w9.heap.size + 1) :
   Km w w2 (stk.take at' ++ [p]) (.slice (some ⟨g', 0, none⟩) (at' + 1) cap') := by
 have lg : g < wr.heap.size := (hO.lt g rfl).2
 have hg0 : w.heap.size ≤ g := (hO.lt g rfl).1
 have s9 := h9.size
 have s2 := hgrow.size
 have sa : (w9.alloc o).heap.size = w9.heap.size + 1 := by simp
 rw [sa] at s2
 have hlv : vals.length = at' + q := by have := hO.1; omega
 have hft : (stk.take at').length = at' := by rw [List.length_take]; omega
 have keep9 : ∀ b, b < w9.heap.size → b ≠ g → w2.heap[b]? = w9.heap[b]? ∧ (Value.slice (some (⟨g', 0, none⟩ : Addr)) (at' + 1) cap').ownBlock ≠ some b := fun b hb hne => by
   refine ⟨(hgrow.block b (by omega) (fun e => hne (Option.some.inj e))).trans (Below.heap_alloc w9 o b hb), fun e => ?_⟩
   have e2 : g' = b := Option.some.inj e
   rcases hat with h | h
   · have e3 : g = g' := Option.some.inj h
     omega
   · omega
 refine ⟨vals.take at' ++ [.slice A9 p.length c9], by rw [List.length_append, hft]; exact hown, fun u hu => ?_, fun j hj => ?_, ?_⟩
 · rcases List.mem_append.1 hu with h | h
   · exact hone u (List.mem_of_mem_take h)
   · simp only [List.mem_singleton] at h
     subst h; rfl
 · rw [List.length_append, hft] at hj
   by_cases hja : j < at'
   · obtain ⟨A, c, hv, hc, hr, hn⟩ := hV j (by omega)
     have e : (stk.take at' ++ [p])[j]'(by rw [List.length_append, hft]; exact hj) = stk[j]'(by omega) := by
       rw [List.getElem_append_left (by omega)]; exact List.getElem_take
     refine ⟨A, c, ?_, ?_, ?_, fun b o' ea => ?_⟩
     · rw [List.getElem?_append_left (by rw [List.length_take]; omega), List.getElem?_take_of_lt hja, e]; exact hv
     · rw [e]; exact hc
     · rw [e]
       refine (hr.keep h9).keepB fun b hb ha => ?_
       obtain ⟨o', ea⟩ := ha
       obtain ⟨h1, h2⟩ := hn b o' ea
       exact (keep9 b (by omega) (fun h => h2 (by rw [h]; rfl))).1
     · obtain ⟨h1, h2⟩ := hn b o' ea
       have hne : b ≠ g := fun h => h2 (by rw [h]; rfl)
       exact ⟨by omega, (keep9 b (by omega) hne).2⟩
   · have hje : j = at' := by simp at hj; omega
     subst hje
     have e : (stk.take j ++ [p])[j]'(by rw [List.length_append, hft]; exact hj) = p := by
       rw [List.getElem_append_right (by omega)]
       simp [hft]
     refine ⟨A9, c9, ?_, ?_, ?_, fun b o' ea => ?_⟩
     · rw [List.getElem?_append_right (by rw [List.length_take]; omega), List.length_take, hlv, Nat.min_eq_left (by omega), Nat.sub_self, e]; rfl
     · rw [e]; exact hc9
     · rw [e]
       refine hr9.keepB fun b hb ha => ?_
       obtain ⟨o', ea⟩ := ha
       obtain ⟨h1, h2⟩ := hn9 b o' ea
       exact (keep9 b h2 (by omega)).1
     · obtain ⟨h1, h2⟩ := hn9 b o' ea
       exact ⟨by omega, (keep9 b h2 (by omega)).2⟩
 · have h1 := Aa hB hB.size h9
   exact (h1.alloc h1.size o).grown hgrow (by rw [sa]; have := h1.size; omega) (fun k hk => by cases hk; exact hg0)
theorem M7 {w wr w9 w2 : World} {g' cap' : Nat} {p : List IT} {A9 : Option Addr} {c9 : Nat} {o : Obj} (hB : Below w.heap.size w wr) (h9 : Below wr.heap.size wr w9) (hc9 : p.length ≤ c9) (hr9 : RowI w9 p A9) (hn9 : ∀ b o, A9 = some ⟨b, o, none⟩ → wr.heap.size ≤ b ∧ b < w9.heap.size)
   (hgrow : (w9.alloc o).grownBy w2 (Value.slice none 0 0).ownBlock) (hown : w2.ownsRow w.heap.size 37 1 (.slice (some ⟨g', 0, none⟩) (0 + 1) cap') (0 + 1) ([] ++ [.slice A9 p.length c9])) (hat : (Value.slice none 0 0).ownBlock = some g' ∨ g' = w9.heap.size + 1) :
   Km w w2 ([].take 0 ++ [p]) (.slice (some ⟨g', 0, none⟩) (0 + 1) cap') := by
 have s9 := h9.size
 have s2 := hgrow.size
 have sa : (w9.alloc o).heap.size = w9.heap.size + 1 := by simp
 rw [sa] at s2
 have hg' : g' = w9.heap.size + 1 := hat.elim (fun h => by cases h) id
 refine ⟨[.slice A9 p.length c9], hown, fun u hu => by simp only [List.mem_singleton] at hu; subst hu; rfl, fun j hj => ?_, ?_⟩
 · obtain rfl : j = 0 := by simpa using hj
   refine ⟨A9, c9, rfl, hc9, ?_, fun b o' ea => ?_⟩
   · refine RowI.keepB (w := w9) hr9 fun b hb ha => ?_
     obtain ⟨o', ea⟩ := ha
     obtain ⟨h1, h2⟩ := hn9 b o' ea
     exact (hgrow.block b (by omega) (fun e => by cases e)).trans (Below.heap_alloc w9 o b h2)
   · obtain ⟨h1, h2⟩ := hn9 b o' ea
     exact ⟨by omega, fun e => by have e2 : g' = b := Option.some.inj e; omega⟩
 · have h1 := Aa hB hB.size h9
   exact (h1.alloc h1.size o).grown hgrow (by rw [sa]; have := h1.size; omega) (fun k hk => by cases hk)
theorem F6 {wr wm w9 : World} {B : Nat} {p : List IT} {x : IT} {A8 : Option Addr} {c8 g cap : Nat} (hB : wr.heap.size ≤ B) (hm : Below wr.heap.size wr wm) (hb : ∀ k, (Value.slice A8 p.length c8).ownBlock = some k → wr.heap.size ≤ k) (hgrow : wm.grownBy w9 (Value.slice A8 p.length c8).ownBlock)
  (hown : w9.ownsRow B 73 5 (.slice (some ⟨g, 0, none⟩) (p.length + 1) cap) (p.length + 1) (AW p ++ Ke x)) : ProgOut wr w9 (p ++ [x]) (.slice (some ⟨g, 0, none⟩) (p.length + 1) cap) := by
 refine ProgOut.of (w1 := wr) (B := wr.heap.size) ?_ (Nat.le_refl _) (hm.grown hgrow hm.size hb)
 have h := Iy hown hB
 rw [Fw, List.length_append]
 simpa [AW] using h
theorem Mk (w : World) (k : Int) (t : ByteArray) (n : Int) : ∀ j u, [Value.int .u8 1, .int .u8 k, .string t, .int .i64 n, .int .i64 0][j]? = some u → (w.alloc (.cells #[.int .u8 1, .int .u8 k, .string t, .int .i64 n, .int .i64 0] 73)).cell? ((⟨w.heap.size, 0, none⟩ : Addr).add j) = some u := Ho w _ _ _ _ _ _
theorem Im {w : World} {g : Nat} {v0 v1 v2 v3 v4 : Value} {T : TypeId} (h : w.heap[g]? = some (.cells #[v0, v1, v2, v3, v4] T (0, 0))) : ∀ j u, [v0, v1, v2, v3, v4][j]? = some u → w.cell? ((⟨g, 0, none⟩ : Addr).add j) = some u := by
 intro j u hj
 obtain ⟨c0, c1, c2, c3, c4⟩ := AF h
 rw [AS, Nat.zero_add]
 match j, hj with
 | 0, hj => cases hj; exact c0
 | 1, hj => cases hj; exact c1
 | 2, hj => cases hj; exact c2
 | 3, hj => cases hj; exact c3
 | 4, hj => cases hj; exact c4
theorem Er {w : World} {B : Nat} {T : TypeId} {g n m cap : Nat} {xs : List Value} (h : w.ownsRow B T 1 (.slice (some ⟨g, 0, none⟩) n cap) n xs) (hm : m ≤ n) : w.ownsRow B T 1 (.slice (some ⟨g, 0, none⟩) m cap) m (xs.take m) := GX h hm
def C0 (w : World) (l : List ST) (e : Ending) (w' : World) : Prop := ∃ A c, e = .returned (.tuple #[.slice A (AB l).1.length c, .int .i64 (AB l).2]) ∧ (AB l).1.length ≤ c ∧ RowI w' (AB l).1 A ∧ Below w.heap.size w w'
set_option maxHeartbeats 4000000 in
set_option maxRecDepth 100000 in
theorem Ce (l : List ST) (a : Option Addr) (c : Nat) (w : World) (hlen : l.length ≤ LIM) (hst : ∀ s ∈ l, Be s) (hL : Laid w) (hr : RowS w l a) :
   Calls Tryz.prog 14 #[.slice a l.length c] w (C0 w l) := by
 have hrt := EZ l a c w hL hlen (fun s hs => (hst s hs).2.1) hr
 cases hright : Av l with
 | false =>
   rw [hright] at hrt
   have HRT := Lib.hid hrt
   have HCE : Hid (AB l = ([], 13)) := Lib.hid (by unfold AB; rw [hright]; rfl)
   clear hrt hr hL hst hright
   go_enter Tryz.func14, Tryz.ntmps14
   go_wp2_with (go_at_call 23; refine (HRT.out).mono ?_; rintro e w1 ⟨rfl, hb1⟩; have HB1 := Lib.hid hb1; clear hb1)
   go_ret2
   show C0 w l _ _
   unfold C0
   rw [HCE.out]
   exact ⟨none, 0, rfl, Nat.le_refl _, Or.inl rfl, HB1.out⟩
 | true =>
   rw [hright] at hrt
   obtain ⟨hra, hl128⟩ := Fa hright
   have hgood := Hd
   have HRT := Lib.hid hrt
   have HR := Lib.hid hr
   have HL := Lib.hid hL
   have HST := Lib.hid hst
   have HRA := Lib.hid hra
   have HGO := Lib.hid hgood
   have HCE : Hid (AB l = ((AO l []).getD 0 [], 0)) := Lib.hid (by unfold AB; rw [hright]; rfl)
   clear hrt hr hL hst hright hra hgood
   go_enter Tryz.func14, Tryz.ntmps14
   go_wp2_with (go_at_call 23; refine (HRT.out).mono ?_; rintro e w1 ⟨rfl, hb1⟩; have HB1 := Lib.hid hb1; clear hb1)
   go_loopw [4, 17] (fun s4 s17 wr => ∃ (i : Nat) (stk : List (List IT)) (sv : Value), s4 = sv ∧ s17 = .int .i64 i ∧ i ≤ l.length ∧ Hid (AO (l.take i) [] = stk) ∧ Hid (AG (l.take i) = some (stk.length : Int)) ∧ Km w wr stk sv) (fun _ s17 _ => l.length - (intOf s17).toNat)
   case atStart => exact ⟨0, [], _, rfl, rfl, Nat.zero_le _, Lib.hid rfl, Lib.hid rfl, [], World.ownsRow_nil _ _ _ _, by simp, fun j h => absurd h (Nat.not_lt_zero _), HB1.out⟩
   case round =>
    obtain ⟨i, stk, sv, e4, rfl, hil, HF, HRI, hat⟩ := hrel
    have e4 := e4.symm
    subst e4
    obtain ⟨vals, hO, hone, hV, hB⟩ := hat
    have HO := Lib.hid hO
    have HONE := Lib.hid hone
    have HV := Lib.hid hV
    have HB := Lib.hid hB
    clear hO hone hV hB HB1 HRT
    by_cases hlt : i < l.length
    · rcases HR.out.keep HB.out with h0 | ⟨b, o, rfl, hc⟩
      · omega
      obtain ⟨c0, c1, c2⟩ := hc i hlt
      have hst := Ev l i hlt
      have hdead := Et l (i + 1)
      have hsf := LR l i hlt
      have hso := HST.out _ (List.getElem_mem hlt)
      obtain ⟨s, hs⟩ : ∃ s, l[i] = s := ⟨_, rfl⟩
      rw [hs] at c0 c1 c2 hst hsf hso
      rw [HRI.out] at hst
      rw [HF.out] at hsf
      have hok : s.ok = true ∧ s.takes ≤ (stk.length : Int) := by
        cases hok : s.ok with
        | true =>
          refine ⟨rfl, ?_⟩
          by_cases h : s.takes ≤ (stk.length : Int)
          · exact h
          · have := hdead (by rw [hst]; simp [As, h])
            rw [HRA.out] at this; cases this
        | false =>
          have := hdead (by rw [hst]; simp [As, hok])
          rw [HRA.out] at this; cases this
      obtain ⟨hok, htk⟩ := hok
      have hrg := Bn s hok
      have hst2 : AG (l.take (i + 1)) = some ((stk.length : Int) - (s.takes - 1)) := by rw [hst]; simp [As, hok, htk]
      obtain ⟨q, hq⟩ : ∃ q : Nat, s.takes = q := ⟨s.takes.toNat, by omega⟩
      obtain ⟨at', hat'⟩ : ∃ at' : Nat, stk.length = at' + q := ⟨stk.length - q, by omega⟩
      have HFS : Hid (AO (l.take (i + 1)) [] = stk.take at' ++ [AQ s (stk.drop at')]) := Lib.hid (by rw [hsf]; unfold Ba; rw [hq, hat']; simp)
      have HRS : Hid (AG (l.take (i + 1)) = some ((at' : Int) + 1)) := Lib.hid (by rw [hst2, hq, hat']; congr 1; push_cast; omega)
      have hsum := HGO.out (l.take i) [] (by simp)
      rw [HF.out, List.length_take] at hsum
      have HGD := Lib.hid hsum.1
      have HSM0 : Hid (B8 stk ≤ 300) := Lib.hid (by have := hsum.2; simp only [B8] at this; omega)
      have HTK0 := fun (w' : World) (hb : Below w.heap.size w w') => Dg s.k s.t s.n w' hso.2.1 (HL.out.below hb)
      rw [Df s hok, hq] at HTK0
      have HTK := Lib.hid HTK0
      have HQ := Lib.hid hq
      have HOKS := Lib.hid hok
      have HSO := Lib.hid hso
      have hq64 : q ≤ 64 := by omega
      have hfl : stk.length ≤ i := by
        have := Ll (l.take i) _ HRI.out
        rw [List.length_take] at this
        omega
      clear hst hst2 hdead hsf hs HTK0 hok hso htk hrg hc hq hsum
      have hbx := Ad (w := wr) (.cells #[.int .u8 s.k, .string s.t, .int .i64 s.n] 43)
      have HTK1 := Lib.hid (HTK.out _ (Aa HB.out HB.out.size hbx))
      have HBX := Lib.hid hbx
      clear hbx
      rcases HO.out.2 with ⟨e, h0⟩ | ⟨g, cap, cur, e, hBg, hg, h1, h2, hcs, htk⟩
      · obtain rfl : q = 0 := by omega
        obtain rfl : at' = 0 := by omega
        obtain rfl := List.length_eq_zero_iff.1 h0
        subst e
        have h21n : s.k ≠ 21 ∧ s.k ≠ 22 := by
          have h := HQ.out
          unfold ST.takes AJ at h
          constructor <;> intro hk <;> simp [hk] at h
        have H21 := Lib.hid h21n.1
        have H22 := Lib.hid h21n.2
        have q21 : (s.k == 21) = false := by simpa using h21n.1
        have q22 : (s.k == 22) = false := by simpa using h21n.2
        clear hat' h0 hq64 h21n
        go_upto_region 8 with (go_at_call 20; refine (HTK1.out).mono ?_; rintro e w6 ⟨rfl, hb6⟩; have HB6 := Lib.hid hb6; clear hb6)
        have hk6 := blk HB6.out (Fp (o := .cells #[.int .u8 s.k, .string s.t, .int .i64 s.n] 43) (w := wr))
        have HB60 := Lib.hid (Aa HBX.out HBX.out.size HB6.out)
        obtain ⟨k0, k1, k2, k3⟩ := Ak hk6
        have HS6 : Hid (w6.cell? ⟨wr.heap.size, 0, none⟩ = some (.int .u8 s.k) ∧ w6.cell? ⟨wr.heap.size, 1, none⟩ = some (.string s.t) ∧ w6.cell? ⟨wr.heap.size, 2, none⟩ = some (.int .i64 s.n)) := Lib.hid ⟨k0, k1, k2⟩
        have l6 : wr.heap.size < w6.heap.size := lt_of_block hk6
        clear k3 hk6 c0 c1 c2
        have HSM : Hid (B8 ([] : List (List IT)) ≤ 300) := Lib.hid (by simp [B8])
        have HJ : Hid (∀ w', Below wr.heap.size wr w' → Calls Tryz.prog 31 #[.slice none 0 0] w' fun e w2 => ∃ v, e = .returned v ∧ Di w' w2 (Bk ([] : List (List IT)) []) v) := Lib.hid (fun w' hb => En [] none 0 w' (by simp) (by simp) (by simp [Bk]) (Or.inl rfl))
        obtain ⟨jp, hjp⟩ : ∃ x, Bk (([] : List (List IT))) [] = x := ⟨_, rfl⟩
        rw [hjp] at HJ
        have HPC : Hid (AQ s (([] : List (List IT))) = jp ++ [⟨1, s, 0⟩]) := Lib.hid (by unfold AQ; rw [if_neg (by have := H21.out; omega), if_neg (by have := H22.out; omega), hjp])
        have HJL : Hid (jp.length ≤ 100000) := Lib.hid (by rw [← hjp, CG]; have := HSM.out; simp; omega)
        clear hjp
        go_upto_block 2 with (fail)
        have HDA := Lib.hid (Ad (w := w6) (.cells #[.int .u8 1, .int .u8 s.k, .string s.t, .int .i64 s.n, .int .i64 0] 73))
        have HOB := Lib.hid (Ab w6 (.cells #[.int .u8 1, .int .u8 s.k, .string s.t, .int .i64 s.n, .int .i64 0] 73))
        have HSA : Hid ((w6.alloc (.cells #[.int .u8 1, .int .u8 s.k, .string s.t, .int .i64 s.n, .int .i64 0] 73)).cell? ⟨wr.heap.size, 0, none⟩ = some (.int .u8 s.k) ∧ (w6.alloc (.cells #[.int .u8 1, .int .u8 s.k, .string s.t, .int .i64 s.n, .int .i64 0] 73)).cell? ⟨wr.heap.size, 1, none⟩ = some (.string s.t) ∧ (w6.alloc (.cells #[.int .u8 1, .int .u8 s.k, .string s.t, .int .i64 s.n, .int .i64 0] 73)).cell? ⟨wr.heap.size, 2, none⟩ = some (.int .i64 s.n)) := Lib.hid ⟨Ac HDA.out HS6.out.1, Ac HDA.out HS6.out.2.1, Ac HDA.out HS6.out.2.2⟩
        have HB6D := Lib.hid (Aa HB60.out HB60.out.size (Below.refl w6.heap.size w6).drew)
        have HB6A := Lib.hid (Aa HB60.out HB60.out.size (Below.drew HDA.out))
        obtain ⟨x0, x1, x2⟩ := (show w6.drew.cell? ⟨wr.heap.size, 0, none⟩ = some (.int .u8 s.k) ∧ w6.drew.cell? ⟨wr.heap.size, 1, none⟩ = some (.string s.t) ∧ w6.drew.cell? ⟨wr.heap.size, 2, none⟩ = some (.int .i64 s.n) from HS6.out)
        obtain ⟨y0, y1, y2⟩ := (show w6.cell? ⟨wr.heap.size, 0, none⟩ = some (.int .u8 s.k) ∧ w6.cell? ⟨wr.heap.size, 1, none⟩ = some (.string s.t) ∧ w6.cell? ⟨wr.heap.size, 2, none⟩ = some (.int .i64 s.n) from HS6.out)
        obtain ⟨i0, hi0, hz00, hz1, hz2⟩ := info_parts Tryz.infoI
        have E1 : Hid (jp.length + 1 ≤ maxLen) := Lib.hid (by have := HJL.out; unfold maxLen; omega)
        have E2 : Hid ((jp.length + 1) * 48 ≤ 140737488355328) := Lib.hid (by have := HJL.out; omega)
        have E5 : Hid (∀ u ∈ ([.int .u8 1, .int .u8 s.k, .string s.t, .int .i64 s.n, .int .i64 0] : List Value), u.oneCell' = true) := Lib.hid (by intro u hu; simp only [List.mem_cons, List.not_mem_nil, or_false] at hu; rcases hu with rfl | rfl | rfl | rfl | rfl <;> rfl)
        go_cut [11] (fun s11 wx => ProgOut wr wx (jp ++ [⟨1, s, 0⟩]) s11)
        case first =>
          go_upto_region 12 with (fail)
          go_region_law (first | (refine step_append_lies _ rfl (.tmp 36) (.tmp 39) 37 rfl w6.heap.size 73 i0 (.agg #[.int .u8 0, .int .u8 0, .string ⟨#[]⟩, .int .i64 0, .int .i64 0]) 5 48 Tryz.underlying37 hi0 hz00 hz1 hz2 rfl (by decide) (.slice A8 jp.length c8) jp.length (AW jp) (by simp [Act.eval, Act.put]) ((HJ8.out.1).alloc (.cells #[.int .u8 1, .int .u8 s.k, .string s.t, .int .i64 s.n, .int .i64 0] 73)) ⟨w8.heap.size, 0, none⟩ 1 1 [.int .u8 1, .int .u8 s.k, .string s.t, .int .i64 s.n, .int .i64 0] (by simp [Act.eval, Act.put]) rfl (Mk w8 _ _ _) E5.out (by decide) E1.out E2.out (by have := HSB.out; simp; omega) (w8.heap.size + 1) (by simp) ?_; intro g9 cap9 w9 hown hgrow hat2 hlt2; have HFA := Lib.hid (show ProgOut wr w9 (jp ++ [⟨1, s, 0⟩]) (.slice (some ⟨g9, 0, none⟩) (jp.length + 1) cap9) from F6 (by have := HB60.out.size; omega) ((HB8.out.alloc HB8.out.size _)) (fun k hk => by have := HB60.out.size; exact Nat.le_trans this (HJ8.out.1.lt k hk).1) hgrow hown); clear hown hgrow hat2 hlt2) | (refine step_append_lies _ rfl (.tmp 36) (.tmp 39) 37 rfl (w6.alloc (.cells #[.int .u8 1, .int .u8 s.k, .string s.t, .int .i64 s.n, .int .i64 0] 73)).heap.size 73 i0 (.agg #[.int .u8 0, .int .u8 0, .string ⟨#[]⟩, .int .i64 0, .int .i64 0]) 5 48 Tryz.underlying37 hi0 hz00 hz1 hz2 rfl (by decide) (.slice A8 jp.length c8) jp.length (AW jp) (by simp [Act.eval, Act.put]) HJ8.out.1 ⟨w6.heap.size, 0, none⟩ 1 1 [.int .u8 1, .int .u8 s.k, .string s.t, .int .i64 s.n, .int .i64 0] (by simp [Act.eval, Act.put]) rfl (Im HO8.out) E5.out (by decide) E1.out E2.out (by exact HJ8.out.2.size) w8.heap.size rfl ?_; intro g9 cap9 w9 hown hgrow hat2 hlt2; have HFA := Lib.hid (show ProgOut wr w9 (jp ++ [⟨1, s, 0⟩]) (.slice (some ⟨g9, 0, none⟩) (jp.length + 1) cap9) from F6 (by have := HB60.out.size; simp; omega) HB8.out (fun k hk => by have := HB60.out.size; have := (HJ8.out.1.lt k hk).1; simp at this; omega) hgrow hown); clear hown hgrow hat2 hlt2) | (go_simp; go_at_call 31; first | ((with_reducible refine (HJ.out _ HB6D.out).mono ?_); rintro e w8 ⟨v8, rfl, hj8⟩; have HJ8 := Lib.hid hj8; have HB8 := Lib.hid (Aa HB6D.out HB6D.out.size hj8.2); have HSB := Lib.hid (show w6.heap.size ≤ w8.heap.size from hj8.2.size); clear x0 x1 x2 y0 y1 y2; obtain ⟨x0, x1, x2⟩ := (show w8.cell? ⟨wr.heap.size, 0, none⟩ = some (.int .u8 s.k) ∧ w8.cell? ⟨wr.heap.size, 1, none⟩ = some (.string s.t) ∧ w8.cell? ⟨wr.heap.size, 2, none⟩ = some (.int .i64 s.n) from ⟨Ac hj8.2 (show w6.drew.cell? _ = _ from HS6.out.1), Ac hj8.2 (show w6.drew.cell? _ = _ from HS6.out.2.1), Ac hj8.2 (show w6.drew.cell? _ = _ from HS6.out.2.2)⟩); obtain ⟨A8, c8, rfl, hc8, _⟩ := Bt hj8.1; clear hj8) | ((with_reducible refine (HJ.out _ HB6A.out).mono ?_); rintro e w8 ⟨v8, rfl, hj8⟩; have HJ8 := Lib.hid hj8; have HB8 := Lib.hid (Aa HB6A.out HB6A.out.size hj8.2); have HO8 := Lib.hid (blk (W := (w6.alloc (.cells #[.int .u8 1, .int .u8 s.k, .string s.t, .int .i64 s.n, .int .i64 0] 73)).drew) hj8.2 HOB.out); obtain ⟨A8, c8, rfl, hc8, _⟩ := Bt hj8.1; clear hj8)))
          all_goals (go_wp2_with fail)
          all_goals go_meet
          all_goals (exact HFA.out)
        case rest =>
          obtain ⟨A9, c9, rfl, hc9, hr9, hn9, hb9⟩ := hcut
          have HC9 := Lib.hid hc9
          have HR9 := Lib.hid hr9
          have HN9 := Lib.hid hn9
          have HB9 := Lib.hid hb9
          obtain ⟨w9, hw9⟩ : ∃ x, x = wc := ⟨_, rfl⟩
          subst hw9
          generalize jp ++ [⟨1, s, 0⟩] = pr at *
          clear hc9 hr9 hn9 hb9 x0 x1 x2 y0 y1 y2 E1 E2 E5 hi0 hz00 hz1 hz2 HJ HJL HDA HOB HSA HB6D HB6A
          obtain ⟨i0, hi0, hz00, hz1, hz2⟩ := info_parts Tryz.infoP
          have E1 : Hid (0 + 1 ≤ maxLen) := Lib.hid (by unfold maxLen; omega)
          have E2 : Hid ((0 + 1) * 24 ≤ 140737488355328) := Lib.hid (by omega)
          have E3 : Hid (w.heap.size ≤ (w9.alloc (.cells #[.slice A9 pr.length c9] 37)).heap.size) := Lib.hid (by have := HB9.out.size; have := HB.out.size; simp; omega)
          have E5 : Hid (∀ u ∈ ([.slice A9 pr.length c9] : List Value), u.oneCell' = true) := Lib.hid (by intro u hu; simp only [List.mem_singleton] at hu; subst hu; rfl)
          go_wp2_with (at_builtin; refine wpList_append_lies _ rfl _ _ 68 rfl w.heap.size 37 i0 (.slice none 0 0) 1 24 Tryz.underlying68 hi0 hz00 hz1 hz2 rfl (by decide) (.slice none 0 0) 0 [] (by rfl) (World.ownsRow_nil _ _ _ _) ⟨w9.heap.size, 0, none⟩ 1 1 [.slice A9 pr.length c9] (by rfl) rfl Ep E5.out (by decide) E1.out E2.out E3.out (w9.heap.size + 1) (by simp) ?_; intro g' cap' w2 hown hgrow hat2 hlt2; have HTS := Lib.hid (M7 HB.out HB9.out HC9.out HR9.out HN9.out hgrow hown hat2); clear hown hgrow hat2 hlt2)
          go_roundw
          case rel => exact ⟨i + 1, _, _, rfl, by go_num, by omega, Lib.hid (by rw [HFS.out]; exact congrArg (fun x => [] ++ [x]) HPC.out), Lib.hid (by rw [HRS.out, List.length_append]; rfl), HTS.out⟩
          case measure => simp [intOf]; omega
      · rw [hat'] at e
        obtain ⟨r, rfl⟩ : ∃ r, cap = at' + r := ⟨cap - at', by omega⟩
        have hqr : q ≤ r := by omega
        have hS1 : ((at' + q : Nat) : Int) - (q : Int) = (at' : Int) := by omega
        have hS2 : (at' : Int) + (q : Int) - (q : Int) = (at' : Int) := by omega
        have hat64 : at' ≤ 200 := by omega
        have hr63 : at' + r ≤ 9223372036854775807 := by unfold maxLen at h2; omega
        subst e
        have HFL := Lib.hid hat'
        have HO2 : Hid (wr.ownsRow w.heap.size 37 1 (.slice (some ⟨g, 0, none⟩) (at' + q) (at' + r)) (at' + q) vals) := Lib.hid (by have h := HO.out; rw [hat'] at h; exact h)
        have hlv : vals.length = at' + q := by have := HO.out.1; have := HFL.out; omega
        have HLV := Lib.hid hlv
        have HGM : Hid (∀ p ∈ stk.drop at', GH p) := Lib.hid (fun p hp => (HGD.out p (List.mem_of_mem_drop hp)).max (by have := Cm stk p (List.mem_of_mem_drop hp); have := HSM0.out; omega))
        have HSM : Hid (B8 (stk.drop at') ≤ 300) := Lib.hid (by have h := FG (stk.take at') (stk.drop at'); rw [List.take_append_drop] at h; have := HSM0.out; omega)
        clear hcs htk hg h1 h2 hat' hlv
        go_upto_region 8 with (go_at_call 20; refine (HTK1.out).mono ?_; rintro e w6 ⟨rfl, hb6⟩; have HB6 := Lib.hid hb6; clear hb6)
        have hk6 := blk HB6.out (Fp (o := .cells #[.int .u8 s.k, .string s.t, .int .i64 s.n] 43) (w := wr))
        have HB60 := Lib.hid (Aa HBX.out HBX.out.size HB6.out)
        obtain ⟨k0, k1, k2, k3⟩ := Ak hk6
        have HS6 : Hid (w6.cell? ⟨wr.heap.size, 0, none⟩ = some (.int .u8 s.k) ∧ w6.cell? ⟨wr.heap.size, 1, none⟩ = some (.string s.t) ∧ w6.cell? ⟨wr.heap.size, 2, none⟩ = some (.int .i64 s.n)) := Lib.hid ⟨k0, k1, k2⟩
        have l6 : wr.heap.size < w6.heap.size := lt_of_block hk6
        clear k3 hk6 c0 c1 c2
        have b1 : (0 : Int) ≤ (at' : Int) := by omega
        have b2 : (at' : Int) ≤ ((at' + q : Nat) : Int) := by omega
        have b3 : (at' : Int) ≤ (at' : Int) + (q : Int) := by omega
        have b4 : (at' : Int) ≤ (at' : Int) + (r : Int) := by omega
        have b5 : (at' : Int) ≤ ((at' + r : Nat) : Int) := by omega
        have b6 : at' ≤ at' + q := by omega
        have b7 : at' ≤ at' + r := by omega
        by_cases h21 : s.k = 21
        · have hq2 : q = 2 := by
            have h := HQ.out
            unfold ST.takes AJ at h
            rw [h21, if_neg (by omega), if_neg (by omega), if_neg (by omega)] at h
            omega
          subst hq2
          have q21 : (s.k == 21) = true := by simpa using h21
          obtain ⟨Ap, cp, hvp, hcp, hrp, _⟩ := HV.out at' (by rw [HFL.out]; omega)
          obtain ⟨Aq, cq, hvq, hcq, hrq, _⟩ := HV.out (at' + 1) (by rw [HFL.out]; omega)
          obtain ⟨pp, hpp⟩ : ∃ x, stk[at']'(by rw [HFL.out]; omega) = x := ⟨_, rfl⟩
          obtain ⟨pq, hpq⟩ : ∃ x, stk[at' + 1]'(by rw [HFL.out]; omega) = x := ⟨_, rfl⟩
          rw [hpp] at hvp hcp hrp
          rw [hpq] at hvq hcq hrq
          have hmp : pp ∈ stk := hpp ▸ List.getElem_mem _
          have hmq : pq ∈ stk := hpq ▸ List.getElem_mem _
          have hdr : stk.drop at' = [pp, pq] := by rw [List.drop_eq_getElem_cons (by rw [HFL.out]; omega), List.drop_eq_getElem_cons (by rw [HFL.out]; omega), List.drop_of_length_le (by rw [HFL.out]; omega), hpp, hpq]
          have HPC : Hid (AQ s (stk.drop at') = AU 2 3 pp pq) := Lib.hid (by unfold AQ; rw [hdr]; simp [h21])
          have HLG : Hid (∀ w', Below wr.heap.size wr w' → Calls Tryz.prog 30 #[.int .u8 2, .int .u8 3, .slice Ap pp.length cp, .slice Aq pq.length cq] w' fun e w2 => ∃ v, e = .returned v ∧ Di w' w2 (AU 2 3 pp pq) v) := Lib.hid (fun w' hb => Gp 2 3 pp pq Ap Aq cp cq w' (by have := Cm stk pp hmp; have := HSM0.out; omega) (by have := Cm stk pq hmq; have := HSM0.out; omega) ((HGD.out pp hmp).max (by have := Cm stk pp hmp; have := HSM0.out; omega)) ((HGD.out pq hmq).max (by have := Cm stk pq hmq; have := HSM0.out; omega)) hcp hcq (hrp.keep hb) (hrq.keep hb))
          have e0 := Ac HB60.out ((HO2.out.cellAt at' (by have := HLV.out; omega)).trans hvp)
          have e1 := Ac HB60.out ((HO2.out.cellAt (at' + 1) (by have := HLV.out; omega)).trans hvq)
          have hA' : (if r = 0 then some (⟨g, 0, none⟩ : Addr) else some ⟨g, at', none⟩) = some ⟨g, at', none⟩ := if_neg (by omega)
          clear hvp hcp hrp hvq hcq hrq hmp hmq hdr hpp hpq h21
          go_upto_block 2 with (fail)
          have e0 := (show w6.drew.cell? ⟨g, at', none⟩ = _ from e0)
          have e1 := (show w6.drew.cell? ⟨g, at' + 1, none⟩ = _ from e1)
          have HB6D := Lib.hid (Aa HB60.out HB60.out.size (Below.refl w6.heap.size w6).drew)
          go_cut [11] (fun s11 wx => ProgOut wr wx (AU 2 3 pp pq) s11)
          case first =>
            go_upto_region 14 with (fail)
            go_region_with (go_at_call 30; (with_reducible refine (HLG.out _ HB6D.out).mono ?_); rintro e w8 ⟨v8, rfl, hj8⟩; have HJ8 := Lib.hid hj8; clear hj8)
            all_goals (go_wp2_with fail)
            all_goals go_meet
            all_goals (exact ProgOut.of (w1 := wr) HJ8.out.1 (by have := HB6D.out.size; exact this) (Aa HB6D.out HB6D.out.size HJ8.out.2))
          case rest =>
            obtain ⟨A9, c9, rfl, hc9, hr9, hn9, hb9⟩ := hcut
            have HC9 := Lib.hid hc9
            have HR9 := Lib.hid hr9
            have HN9 := Lib.hid hn9
            have HB9 := Lib.hid hb9
            obtain ⟨w9, hw9⟩ : ∃ x, x = wc := ⟨_, rfl⟩
            subst hw9
            generalize AU 2 3 pp pq = pr at *
            clear hc9 hr9 hn9 hb9 e0 e1 HLG HB6D hA'
            obtain ⟨i0, hi0, hz00, hz1, hz2⟩ := info_parts Tryz.infoP
            have HOP := Lib.hid (AM (Er HO2.out b6) HB9.out)
            have E1 : Hid (at' + 1 ≤ maxLen) := Lib.hid (by unfold maxLen; omega)
            have E2 : Hid ((at' + 1) * 24 ≤ 140737488355328) := Lib.hid (by omega)
            have E3 : Hid (w.heap.size ≤ (w9.alloc (.cells #[.slice A9 pr.length c9] 37)).heap.size) := Lib.hid (by have := HB9.out.size; have := HB.out.size; simp; omega)
            have E5 : Hid (∀ u ∈ ([.slice A9 pr.length c9] : List Value), u.oneCell' = true) := Lib.hid (by intro u hu; simp only [List.mem_singleton] at hu; subst hu; rfl)
            go_wp2_with (at_builtin; refine wpList_append_lies _ rfl _ _ 68 rfl w.heap.size 37 i0 (.slice none 0 0) 1 24 Tryz.underlying68 hi0 hz00 hz1 hz2 rfl (by decide) (.slice (some ⟨g, 0, none⟩) at' (at' + r)) at' (vals.take at') (by rfl) (HOP.out.alloc _) ⟨w9.heap.size, 0, none⟩ 1 1 [.slice A9 pr.length c9] (by rfl) rfl Ep E5.out (by decide) E1.out E2.out E3.out (w9.heap.size + 1) (by simp) ?_; intro g' cap' w2 hown hgrow hat2 hlt2; have HTS := Lib.hid (Gd HO2.out HFL.out HONE.out HV.out HB.out HB9.out HC9.out HR9.out HN9.out hgrow hown hat2); clear hown hgrow hat2 hlt2)
            go_roundw
            case rel => exact ⟨i + 1, _, _, rfl, by go_num, by omega, Lib.hid (by rw [HFS.out, HPC.out]), Lib.hid (by rw [HRS.out, List.length_append, List.length_take, HFL.out]; simp), HTS.out⟩
            case measure => simp [intOf]; omega
        by_cases h22 : s.k = 22
        · have hq2 : q = 2 := by
            have h := HQ.out
            unfold ST.takes AJ at h
            rw [h22, if_neg (by omega), if_neg (by omega), if_neg (by omega)] at h
            omega
          subst hq2
          have q22 : (s.k == 22) = true := by simpa using h22
          have q21 : (s.k == 21) = false := by simpa using h21
          obtain ⟨Ap, cp, hvp, hcp, hrp, _⟩ := HV.out at' (by rw [HFL.out]; omega)
          obtain ⟨Aq, cq, hvq, hcq, hrq, _⟩ := HV.out (at' + 1) (by rw [HFL.out]; omega)
          obtain ⟨pp, hpp⟩ : ∃ x, stk[at']'(by rw [HFL.out]; omega) = x := ⟨_, rfl⟩
          obtain ⟨pq, hpq⟩ : ∃ x, stk[at' + 1]'(by rw [HFL.out]; omega) = x := ⟨_, rfl⟩
          rw [hpp] at hvp hcp hrp
          rw [hpq] at hvq hcq hrq
          have hmp : pp ∈ stk := hpp ▸ List.getElem_mem _
          have hmq : pq ∈ stk := hpq ▸ List.getElem_mem _
          have hdr : stk.drop at' = [pp, pq] := by rw [List.drop_eq_getElem_cons (by rw [HFL.out]; omega), List.drop_eq_getElem_cons (by rw [HFL.out]; omega), List.drop_of_length_le (by rw [HFL.out]; omega), hpp, hpq]
          have HPC : Hid (AQ s (stk.drop at') = AU 4 5 pp pq) := Lib.hid (by unfold AQ; rw [hdr]; simp [h22])
          have HLG : Hid (∀ w', Below wr.heap.size wr w' → Calls Tryz.prog 30 #[.int .u8 4, .int .u8 5, .slice Ap pp.length cp, .slice Aq pq.length cq] w' fun e w2 => ∃ v, e = .returned v ∧ Di w' w2 (AU 4 5 pp pq) v) := Lib.hid (fun w' hb => Gp 4 5 pp pq Ap Aq cp cq w' (by have := Cm stk pp hmp; have := HSM0.out; omega) (by have := Cm stk pq hmq; have := HSM0.out; omega) ((HGD.out pp hmp).max (by have := Cm stk pp hmp; have := HSM0.out; omega)) ((HGD.out pq hmq).max (by have := Cm stk pq hmq; have := HSM0.out; omega)) hcp hcq (hrp.keep hb) (hrq.keep hb))
          have e0 := Ac HB60.out ((HO2.out.cellAt at' (by have := HLV.out; omega)).trans hvp)
          have e1 := Ac HB60.out ((HO2.out.cellAt (at' + 1) (by have := HLV.out; omega)).trans hvq)
          have hA' : (if r = 0 then some (⟨g, 0, none⟩ : Addr) else some ⟨g, at', none⟩) = some ⟨g, at', none⟩ := if_neg (by omega)
          clear hvp hcp hrp hvq hcq hrq hmp hmq hdr hpp hpq h22 h21
          go_upto_block 2 with (fail)
          have e0 := (show w6.drew.cell? ⟨g, at', none⟩ = _ from e0)
          have e1 := (show w6.drew.cell? ⟨g, at' + 1, none⟩ = _ from e1)
          have HB6D := Lib.hid (Aa HB60.out HB60.out.size (Below.refl w6.heap.size w6).drew)
          go_cut [11] (fun s11 wx => ProgOut wr wx (AU 4 5 pp pq) s11)
          case first =>
            go_upto_region 16 with (fail)
            go_region_with (go_at_call 30; (with_reducible refine (HLG.out _ HB6D.out).mono ?_); rintro e w8 ⟨v8, rfl, hj8⟩; have HJ8 := Lib.hid hj8; clear hj8)
            all_goals (go_wp2_with fail)
            all_goals go_meet
            all_goals (exact ProgOut.of (w1 := wr) HJ8.out.1 (by have := HB6D.out.size; exact this) (Aa HB6D.out HB6D.out.size HJ8.out.2))
          case rest =>
            obtain ⟨A9, c9, rfl, hc9, hr9, hn9, hb9⟩ := hcut
            have HC9 := Lib.hid hc9
            have HR9 := Lib.hid hr9
            have HN9 := Lib.hid hn9
            have HB9 := Lib.hid hb9
            obtain ⟨w9, hw9⟩ : ∃ x, x = wc := ⟨_, rfl⟩
            subst hw9
            generalize AU 4 5 pp pq = pr at *
            clear hc9 hr9 hn9 hb9 e0 e1 HLG HB6D hA'
            obtain ⟨i0, hi0, hz00, hz1, hz2⟩ := info_parts Tryz.infoP
            have HOP := Lib.hid (AM (Er HO2.out b6) HB9.out)
            have E1 : Hid (at' + 1 ≤ maxLen) := Lib.hid (by unfold maxLen; omega)
            have E2 : Hid ((at' + 1) * 24 ≤ 140737488355328) := Lib.hid (by omega)
            have E3 : Hid (w.heap.size ≤ (w9.alloc (.cells #[.slice A9 pr.length c9] 37)).heap.size) := Lib.hid (by have := HB9.out.size; have := HB.out.size; simp; omega)
            have E5 : Hid (∀ u ∈ ([.slice A9 pr.length c9] : List Value), u.oneCell' = true) := Lib.hid (by intro u hu; simp only [List.mem_singleton] at hu; subst hu; rfl)
            go_wp2_with (at_builtin; refine wpList_append_lies _ rfl _ _ 68 rfl w.heap.size 37 i0 (.slice none 0 0) 1 24 Tryz.underlying68 hi0 hz00 hz1 hz2 rfl (by decide) (.slice (some ⟨g, 0, none⟩) at' (at' + r)) at' (vals.take at') (by rfl) (HOP.out.alloc _) ⟨w9.heap.size, 0, none⟩ 1 1 [.slice A9 pr.length c9] (by rfl) rfl Ep E5.out (by decide) E1.out E2.out E3.out (w9.heap.size + 1) (by simp) ?_; intro g' cap' w2 hown hgrow hat2 hlt2; have HTS := Lib.hid (Gd HO2.out HFL.out HONE.out HV.out HB.out HB9.out HC9.out HR9.out HN9.out hgrow hown hat2); clear hown hgrow hat2 hlt2)
            go_roundw
            case rel => exact ⟨i + 1, _, _, rfl, by go_num, by omega, Lib.hid (by rw [HFS.out, HPC.out]), Lib.hid (by rw [HRS.out, List.length_append, List.length_take, HFL.out]; simp), HTS.out⟩
            case measure => simp [intOf]; omega
        have H21 := Lib.hid h21
        have H22 := Lib.hid h22
        have q21 : (s.k == 21) = false := by simpa using h21
        have q22 : (s.k == 22) = false := by simpa using h22
        clear h21 h22
        obtain ⟨A', hA', hrp⟩ : ∃ A', (if r = 0 then some (⟨g, 0, none⟩ : Addr) else some ⟨g, at', none⟩) = some A' ∧ RowP wr (stk.drop at') (some A') := by
          by_cases hr0 : r = 0
          · exact ⟨⟨g, 0, none⟩, if_pos hr0, Or.inl (by rw [List.length_drop, HFL.out]; omega)⟩
          · refine ⟨⟨g, at', none⟩, if_neg hr0, Or.inr ⟨g, at', rfl, (HO2.out.lt g rfl).2, fun j hj => ?_⟩⟩
            rw [List.length_drop, HFL.out] at hj
            obtain ⟨A, c, hv, hc, hr, _⟩ := HV.out (at' + j) (by rw [HFL.out]; omega)
            have e : (stk.drop at')[j]'(by rw [List.length_drop, HFL.out]; exact hj) = stk[at' + j]'(by rw [HFL.out]; omega) := List.getElem_drop
            rw [e]
            exact ⟨A, c, (HO2.out.cellAt (at' + j) (by have := HLV.out; omega)).trans hv, hc, hr⟩
        have hdl : (stk.drop at').length = q := by rw [List.length_drop, HFL.out]; omega
        have HJ : Hid (∀ w', Below wr.heap.size wr w' → Calls Tryz.prog 31 #[.slice (some A') q r] w' fun e w2 => ∃ v, e = .returned v ∧ Di w' w2 (Bk (stk.drop at') []) v) := Lib.hid (fun w' hb => by
          have h := En (stk.drop at') (some A') r w' (by omega) HGM.out (by rw [CG]; have := HSM.out; simp; omega) (hrp.keep hb)
          rw [hdl] at h
          exact h)
        clear hrp hdl
        obtain ⟨jp, hjp⟩ : ∃ x, Bk (stk.drop at') [] = x := ⟨_, rfl⟩
        rw [hjp] at HJ
        have HPC : Hid (AQ s (stk.drop at') = jp ++ [⟨1, s, 0⟩]) := Lib.hid (by unfold AQ; rw [if_neg (by have := H21.out; omega), if_neg (by have := H22.out; omega), hjp])
        have HJL : Hid (jp.length ≤ 100000) := Lib.hid (by rw [← hjp, CG]; have := HSM.out; simp; omega)
        clear hjp
        go_upto_block 2 with (fail)
        have HDA := Lib.hid (Ad (w := w6) (.cells #[.int .u8 1, .int .u8 s.k, .string s.t, .int .i64 s.n, .int .i64 0] 73))
        have HOB := Lib.hid (Ab w6 (.cells #[.int .u8 1, .int .u8 s.k, .string s.t, .int .i64 s.n, .int .i64 0] 73))
        have HSA : Hid ((w6.alloc (.cells #[.int .u8 1, .int .u8 s.k, .string s.t, .int .i64 s.n, .int .i64 0] 73)).cell? ⟨wr.heap.size, 0, none⟩ = some (.int .u8 s.k) ∧ (w6.alloc (.cells #[.int .u8 1, .int .u8 s.k, .string s.t, .int .i64 s.n, .int .i64 0] 73)).cell? ⟨wr.heap.size, 1, none⟩ = some (.string s.t) ∧ (w6.alloc (.cells #[.int .u8 1, .int .u8 s.k, .string s.t, .int .i64 s.n, .int .i64 0] 73)).cell? ⟨wr.heap.size, 2, none⟩ = some (.int .i64 s.n)) := Lib.hid ⟨Ac HDA.out HS6.out.1, Ac HDA.out HS6.out.2.1, Ac HDA.out HS6.out.2.2⟩
        have HB6D := Lib.hid (Aa HB60.out HB60.out.size (Below.refl w6.heap.size w6).drew)
        have HB6A := Lib.hid (Aa HB60.out HB60.out.size (Below.drew HDA.out))
        obtain ⟨x0, x1, x2⟩ := (show w6.drew.cell? ⟨wr.heap.size, 0, none⟩ = some (.int .u8 s.k) ∧ w6.drew.cell? ⟨wr.heap.size, 1, none⟩ = some (.string s.t) ∧ w6.drew.cell? ⟨wr.heap.size, 2, none⟩ = some (.int .i64 s.n) from HS6.out)
        obtain ⟨y0, y1, y2⟩ := (show w6.cell? ⟨wr.heap.size, 0, none⟩ = some (.int .u8 s.k) ∧ w6.cell? ⟨wr.heap.size, 1, none⟩ = some (.string s.t) ∧ w6.cell? ⟨wr.heap.size, 2, none⟩ = some (.int .i64 s.n) from HS6.out)
        obtain ⟨i0, hi0, hz00, hz1, hz2⟩ := info_parts Tryz.infoI
        have E1 : Hid (jp.length + 1 ≤ maxLen) := Lib.hid (by have := HJL.out; unfold maxLen; omega)
        have E2 : Hid ((jp.length + 1) * 48 ≤ 140737488355328) := Lib.hid (by have := HJL.out; omega)
        have E5 : Hid (∀ u ∈ ([.int .u8 1, .int .u8 s.k, .string s.t, .int .i64 s.n, .int .i64 0] : List Value), u.oneCell' = true) := Lib.hid (by intro u hu; simp only [List.mem_cons, List.not_mem_nil, or_false] at hu; rcases hu with rfl | rfl | rfl | rfl | rfl <;> rfl)
        go_cut [11] (fun s11 wx => ProgOut wr wx (jp ++ [⟨1, s, 0⟩]) s11)
        case first =>
          go_upto_region 12 with (fail)
          go_region_law (first | (refine step_append_lies _ rfl (.tmp 36) (.tmp 39) 37 rfl w6.heap.size 73 i0 (.agg #[.int .u8 0, .int .u8 0, .string ⟨#[]⟩, .int .i64 0, .int .i64 0]) 5 48 Tryz.underlying37 hi0 hz00 hz1 hz2 rfl (by decide) (.slice A8 jp.length c8) jp.length (AW jp) (by simp [Act.eval, Act.put]) ((HJ8.out.1).alloc (.cells #[.int .u8 1, .int .u8 s.k, .string s.t, .int .i64 s.n, .int .i64 0] 73)) ⟨w8.heap.size, 0, none⟩ 1 1 [.int .u8 1, .int .u8 s.k, .string s.t, .int .i64 s.n, .int .i64 0] (by simp [Act.eval, Act.put]) rfl (Mk w8 _ _ _) E5.out (by decide) E1.out E2.out (by have := HSB.out; simp; omega) (w8.heap.size + 1) (by simp) ?_; intro g9 cap9 w9 hown hgrow hat2 hlt2; have HFA := Lib.hid (show ProgOut wr w9 (jp ++ [⟨1, s, 0⟩]) (.slice (some ⟨g9, 0, none⟩) (jp.length + 1) cap9) from F6 (by have := HB60.out.size; omega) ((HB8.out.alloc HB8.out.size _)) (fun k hk => by have := HB60.out.size; exact Nat.le_trans this (HJ8.out.1.lt k hk).1) hgrow hown); clear hown hgrow hat2 hlt2) | (refine step_append_lies _ rfl (.tmp 36) (.tmp 39) 37 rfl (w6.alloc (.cells #[.int .u8 1, .int .u8 s.k, .string s.t, .int .i64 s.n, .int .i64 0] 73)).heap.size 73 i0 (.agg #[.int .u8 0, .int .u8 0, .string ⟨#[]⟩, .int .i64 0, .int .i64 0]) 5 48 Tryz.underlying37 hi0 hz00 hz1 hz2 rfl (by decide) (.slice A8 jp.length c8) jp.length (AW jp) (by simp [Act.eval, Act.put]) HJ8.out.1 ⟨w6.heap.size, 0, none⟩ 1 1 [.int .u8 1, .int .u8 s.k, .string s.t, .int .i64 s.n, .int .i64 0] (by simp [Act.eval, Act.put]) rfl (Im HO8.out) E5.out (by decide) E1.out E2.out (by exact HJ8.out.2.size) w8.heap.size rfl ?_; intro g9 cap9 w9 hown hgrow hat2 hlt2; have HFA := Lib.hid (show ProgOut wr w9 (jp ++ [⟨1, s, 0⟩]) (.slice (some ⟨g9, 0, none⟩) (jp.length + 1) cap9) from F6 (by have := HB60.out.size; simp; omega) HB8.out (fun k hk => by have := HB60.out.size; have := (HJ8.out.1.lt k hk).1; simp at this; omega) hgrow hown); clear hown hgrow hat2 hlt2) | (go_simp; go_at_call 31; first | ((with_reducible refine (HJ.out _ HB6D.out).mono ?_); rintro e w8 ⟨v8, rfl, hj8⟩; have HJ8 := Lib.hid hj8; have HB8 := Lib.hid (Aa HB6D.out HB6D.out.size hj8.2); have HSB := Lib.hid (show w6.heap.size ≤ w8.heap.size from hj8.2.size); clear x0 x1 x2 y0 y1 y2; obtain ⟨x0, x1, x2⟩ := (show w8.cell? ⟨wr.heap.size, 0, none⟩ = some (.int .u8 s.k) ∧ w8.cell? ⟨wr.heap.size, 1, none⟩ = some (.string s.t) ∧ w8.cell? ⟨wr.heap.size, 2, none⟩ = some (.int .i64 s.n) from ⟨Ac hj8.2 (show w6.drew.cell? _ = _ from HS6.out.1), Ac hj8.2 (show w6.drew.cell? _ = _ from HS6.out.2.1), Ac hj8.2 (show w6.drew.cell? _ = _ from HS6.out.2.2)⟩); obtain ⟨A8, c8, rfl, hc8, _⟩ := Bt hj8.1; clear hj8) | ((with_reducible refine (HJ.out _ HB6A.out).mono ?_); rintro e w8 ⟨v8, rfl, hj8⟩; have HJ8 := Lib.hid hj8; have HB8 := Lib.hid (Aa HB6A.out HB6A.out.size hj8.2); have HO8 := Lib.hid (blk (W := (w6.alloc (.cells #[.int .u8 1, .int .u8 s.k, .string s.t, .int .i64 s.n, .int .i64 0] 73)).drew) hj8.2 HOB.out); obtain ⟨A8, c8, rfl, hc8, _⟩ := Bt hj8.1; clear hj8)))
          all_goals (go_wp2_with fail)
          all_goals go_meet
          all_goals (exact HFA.out)
        case rest =>
          obtain ⟨A9, c9, rfl, hc9, hr9, hn9, hb9⟩ := hcut
          have HC9 := Lib.hid hc9
          have HR9 := Lib.hid hr9
          have HN9 := Lib.hid hn9
          have HB9 := Lib.hid hb9
          obtain ⟨w9, hw9⟩ : ∃ x, x = wc := ⟨_, rfl⟩
          subst hw9
          generalize jp ++ [⟨1, s, 0⟩] = pr at *
          clear hc9 hr9 hn9 hb9 x0 x1 x2 y0 y1 y2 E1 E2 E5 hi0 hz00 hz1 hz2 HJ HJL HDA HOB HSA HB6D HB6A
          obtain ⟨i0, hi0, hz00, hz1, hz2⟩ := info_parts Tryz.infoP
          have HOP := Lib.hid (AM (Er HO2.out b6) HB9.out)
          have E1 : Hid (at' + 1 ≤ maxLen) := Lib.hid (by unfold maxLen; omega)
          have E2 : Hid ((at' + 1) * 24 ≤ 140737488355328) := Lib.hid (by omega)
          have E3 : Hid (w.heap.size ≤ (w9.alloc (.cells #[.slice A9 pr.length c9] 37)).heap.size) := Lib.hid (by have := HB9.out.size; have := HB.out.size; simp; omega)
          have E5 : Hid (∀ u ∈ ([.slice A9 pr.length c9] : List Value), u.oneCell' = true) := Lib.hid (by intro u hu; simp only [List.mem_singleton] at hu; subst hu; rfl)
          go_wp2_with (at_builtin; refine wpList_append_lies _ rfl _ _ 68 rfl w.heap.size 37 i0 (.slice none 0 0) 1 24 Tryz.underlying68 hi0 hz00 hz1 hz2 rfl (by decide) (.slice (some ⟨g, 0, none⟩) at' (at' + r)) at' (vals.take at') (by rfl) (HOP.out.alloc _) ⟨w9.heap.size, 0, none⟩ 1 1 [.slice A9 pr.length c9] (by rfl) rfl Ep E5.out (by decide) E1.out E2.out E3.out (w9.heap.size + 1) (by simp) ?_; intro g' cap' w2 hown hgrow hat2 hlt2; have HTS := Lib.hid (Gd HO2.out HFL.out HONE.out HV.out HB.out HB9.out HC9.out HR9.out HN9.out hgrow hown hat2); clear hown hgrow hat2 hlt2)
          go_roundw
          case rel => exact ⟨i + 1, _, _, rfl, by go_num, by omega, Lib.hid (by rw [HFS.out, HPC.out]), Lib.hid (by rw [HRS.out, List.length_append, List.length_take, HFL.out]; simp), HTS.out⟩
          case measure => simp [intOf]; omega
    · have hfull : l.take i = l := List.take_of_length_le (by omega)
      have h1 := HRI.out
      rw [hfull, HRA.out] at h1
      have hfl1 : stk.length = 1 := by have := Option.some.inj h1; omega
      have h2 := HF.out
      rw [hfull] at h2
      obtain ⟨pr, rfl⟩ : ∃ pr, stk = [pr] := by
        match stk, hfl1 with
        | [pr], _ => exact ⟨pr, rfl⟩
      obtain ⟨A, c9, hv, hc, hrr, hn⟩ := HV.out 0 (by simp)
      simp only [List.getElem_cons_zero] at hv hc hrr
      rcases HO.out.2 with ⟨_, h0⟩ | ⟨g, cap, cur, e, hBg, hg, hc1, hc2, hcs, htk⟩
      · cases h0
      · subst e
        have hcell := (HO.out.cellAt 0 (by simp)).trans hv
        have HE : Hid ((AO l []).getD 0 [] = pr) := Lib.hid (by rw [h2]; rfl)
        have HC := Lib.hid hc
        have HRR := Lib.hid hrr
        clear h1 h2 hfull hfl1 hg hc1 hc2 hcs htk hv hc hrr hn
        go_wp2_with fail
        go_ret2
        show C0 w l _ _
        unfold C0
        rw [HCE.out, HE.out]
        exact ⟨A, c9, rfl, HC.out, HRR.out, HB.out⟩
end Go.Proofs.YtbemgcjckchdjaaGreatDoor
