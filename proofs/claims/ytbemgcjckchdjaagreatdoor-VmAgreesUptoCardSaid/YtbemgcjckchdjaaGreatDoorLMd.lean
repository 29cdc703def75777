import Derived.Test.YtbemgcjckchdjaaGreatDoorLMc
import Derived.Test.YtbemgcjckchdjaaGreatDoorLEk
/- expr.one, expr.tree of any steps (printed by genmd.py). -/
namespace Go.Proofs.YtbemgcjckchdjaaGreatDoor
open Go.RowKit
set_option linter.unusedSimpArgs false
set_option linter.unusedVariables false
section
set_option maxHeartbeats 1000000
set_option maxRecDepth 100000
theorem PM (S : Nat → Prop) (s : ST) (fs : List (VT → Rz)) (c : Nat) (A : Option Addr) (w : World) (hN : NodeRow S w fs A) (hk : s.k = 7) (hlen : fs.length ≤ 1000) :
  Calls Tryz.prog 43 #[.agg #[.int .u8 s.k, .string s.t, .int .i64 s.n], .slice A fs.length c] w (Da S w (Co s fs)) := by
 have hD := Ad (w := w) (.cells #[.int .u8 s.k, .string s.t, .int .i64 s.n] 43)
 have HD := Lib.hid hD
 have HN := Lib.hid hN
 have HLEN := Lib.hid hlen
 have e : Co s fs = fun row => Cb none (fs.map fun f => f row) := by
  funext row
  unfold Co AX
  rw [if_pos hk]
 rw [e]
 obtain ⟨k, t, n⟩ := s
 simp only at hk ⊢
 subst hk
 clear hN e hD hlen
 go_enter Tryz.func43, Tryz.ntmps43
 go_wp2_with fail
 go_ret
 refine ⟨HD.out, _, rfl, rfl, _, _, _, rfl, DY _, fun w' row v0 v1 v2 v3 v4 v5 hl hL' hr => ?_⟩
 exact KT S fs A c row v0 v1 v2 v3 v4 v5 w' ((HN.out.later (Later.of_below HD.out)).later hl) HLEN.out hL' hr
theorem MX (S : Nat → Prop) (s : ST) (fs : List (VT → Rz)) (c : Nat) (A : Option Addr) (w : World) (hN : NodeRow S w fs A) (hk : s.k = 8) (hlen : fs.length ≤ 1000) (ht : s.t.size ≤ LIM) (hnm : fs.length = 0 ∨ ((Aw s.t Cf).length = fs.length ∧ Cs (Aw s.t Cf) = true)) (hL : Laid w) (hS : ∀ b, S b → b < w.heap.size) :
  Calls Tryz.prog 43 #[.agg #[.int .u8 s.k, .string s.t, .int .i64 s.n], .slice A fs.length c] w (Da S w (Co s fs)) := by
 have hD := Ad (w := w) (.cells #[.int .u8 s.k, .string s.t, .int .i64 s.n] 43)
 have HSP := Lib.hid (DI s.t Cf _ ht (by decide) (hL.below hD))
 have hsz : ∀ p ∈ Aw s.t Cf, p.size ≤ LIM := fun p hp => by
  have := C9 Cf _ s.t p hp
  unfold LIM at *
  omega
 have HD := Lib.hid hD
 have HN := Lib.hid hN
 have HLEN := Lib.hid hlen
 have HSZ := Lib.hid hsz
 have HNM := Lib.hid hnm
 have HS := Lib.hid hS
 have e : Co s fs = fun row => Cb (some (Aw s.t Cf)) (fs.map fun f => f row) := by
  funext row
  unfold Co AX
  rw [if_neg (by omega), if_pos hk]
 rw [e]
 obtain ⟨k, t, n⟩ := s
 simp only at hk HSP HSZ HNM HD ⊢
 subst hk
 unfold Cf at HSP
 clear hN e hD hlen hsz hnm hS ht hL
 go_enter Tryz.func43, Tryz.ntmps43
 go_wp2_with (go_at_call 57; refine (HSP.out).mono ?_; rintro e w4 ⟨g, rfl, hc4, hg4, hl4, hb4⟩; have HC4 := Lib.hid hc4; have HB4 := Lib.hid (Aa HD.out HD.out.size hb4); have HG4 := Lib.hid (Nat.le_trans HD.out.size hg4); have HL4 := Lib.hid hl4; clear hc4 hb4 hg4 hl4)
 go_ret
 refine ⟨HB4.out, _, rfl, rfl, _, _, _, rfl, DY _, fun w' row v0 v1 v2 v3 v4 v5 hl hL' hr => ?_⟩
 have hne : ¬ S g := fun h => by have := HS.out g h; have := HG4.out; omega
 exact KU S fs A c (Aw t Cf) g _ row v0 v1 v2 v3 v4 v5 w' ((HN.out.later (Later.of_below HB4.out)).later hl) HLEN.out hL' hr (fun i hi => (World.cell?_of_block (a := ⟨g, i, none⟩) (hl.2 g HL4.out hne)).trans (HC4.out i hi)) (Nat.lt_of_lt_of_le HL4.out hl.1) HSZ.out HNM.out
end
theorem F3 (S : Nat → Prop) (s : ST) (fs : List (VT → Rz)) (A : Option Addr) (c q : Nat) (w : World) (hs : Be s) (hok : s.ok = true) (hq : s.takes = (q : Int)) (hlen : fs.length = q) (hc : q ≤ c) (hN : NodeRow S w fs A) (hL : Laid w) (hS : ∀ b, S b → b < w.heap.size) :
   Calls Tryz.prog 43 #[.agg #[.int .u8 s.k, .string s.t, .int .i64 s.n], .slice A q c] w (Da S w (Co s fs)) := by
 have hk0 : s.k ≠ 0 := fun h => by
   unfold ST.ok AC at hok
   simp [h] at hok
 have hk1 : s.k < 23 := by
   unfold ST.ok AC at hok
   simp only [Bool.and_eq_true] at hok
   by_cases h : s.k < 23
   · exact h
   · have h1 := hok.1
     rw [if_neg (by omega), if_neg (by omega), if_neg (by omega), if_neg (by omega), if_neg (by omega), if_neg (by omega)] at h1
     exact absurd (of_decide_eq_true h1) h
 by_cases h7 : s.k = 7
 · have hq7 : q ≤ 64 := by
     unfold ST.takes AJ at hq
     unfold ST.ok AC at hok
     simp only [Bool.and_eq_true, h7] at hok hq
     simp at hok hq
     omega
   rw [← hlen]
   exact PM S s fs c A w hN h7 (by omega)
 by_cases h8 : s.k = 8
 · unfold ST.takes AJ at hq
   unfold ST.ok AC at hok
   simp only [Bool.and_eq_true, h8] at hok hq
   simp at hok hq
   rw [← hlen]
   refine MX S s fs c A w hN h8 (by omega) hs.2.1 ?_ hL hS
   have hnb := hok.1.2
   unfold DE at hnb
   by_cases hn0 : s.n = 0
   · exact Or.inl (by omega)
   · rw [if_neg hn0] at hnb
     simp only [Bool.and_eq_true, beq_iff_eq] at hnb
     exact Or.inr ⟨by show (Aw s.t Cv).length = _; omega, hnb.2.1⟩
 have hmk : s.k ≠ 7 ∧ s.k ≠ 8 := ⟨h7, h8⟩
 by_cases hkp : 1 ≤ s.k
 · unfold ST.takes AJ at hq
   by_cases h6 : s.k ≤ 6
   · rw [if_pos ⟨hkp, h6⟩] at hq
     have q0 : q = 0 := by omega
     subst q0
     obtain rfl := List.length_eq_zero_iff.1 hlen
     exact PL S s c A w hs (fun h => Rw hok h) hL hS hmk.1 hmk.2 (by omega) (by omega)
   · rw [if_neg (by omega), if_neg (by omega)] at hq
     by_cases h11 : s.k ≤ 11
     · rw [if_pos (by omega)] at hq
       rw [← hlen]
       exact La S s fs c A w hN (Or.inl ⟨by omega, h11, by omega⟩)
     · rw [if_neg (by omega)] at hq
       by_cases h20 : s.k ≤ 20
       · rw [← hlen]
         exact La S s fs c A w hN (Or.inr ⟨by omega, h20, by omega⟩)
       · have q2 : q = 2 := by omega
         subst q2
         match fs, hlen with
         | [f, g], _ => exact Of S s f g c A w hN (by omega) hc
 · exfalso
   have := hs.2.2
   omega
set_option maxHeartbeats 4000000 in
set_option maxRecDepth 100000 in
theorem LY (l : List ST) (a : Option Addr) (c : Nat) (w : World) (hlen : l.length ≤ 128) (hright : AG l = some 1) (hst : ∀ s ∈ l, Be s) (hL : Laid w) (hr : RowS w l a) :
  Calls Tryz.prog 24 #[.slice a l.length c] w fun e w' => Below w.heap.size w w' ∧ ∃ v F, e = .returned v ∧ Node (fun _ => False) w' v F ∧ Dr l = [F] := by
 have HR := Lib.hid hr
 have HL := Lib.hid hL
 have HRT := Lib.hid hright
 have HST := Lib.hid hst
 clear hr hL hright hst
 go_enter Tryz.func24, Tryz.ntmps24
 go_wp2_with fail
 go_loopw [3, 12] (fun s3 s12 wr => ∃ (i : Nat) (fs : List (VT → Rz)) (sv : Value), s3 = sv ∧ s12 = .int .i64 i ∧ i ≤ l.length ∧ Hid (Dr (l.take i) = fs) ∧ Hid (AG (l.take i) = some (fs.length : Int)) ∧ Kp w wr fs sv) (fun _ s12 _ => l.length - (intOf s12).toNat)
 case atStart => exact ⟨0, [], _, rfl, rfl, Nat.zero_le _, Lib.hid rfl, Lib.hid rfl, [], World.ownsRow_nil _ _ _ _, by simp, fun j h => absurd h (Nat.not_lt_zero _), Below.refl _ _⟩
 case round =>
  obtain ⟨i, fs, sv, e3, rfl, hil, HF, HRI, hat⟩ := hrel
  have e3 := e3.symm
  subst e3
  obtain ⟨vals, hO, hone, hV, hB⟩ := hat
  have HO := Lib.hid hO
  have HONE := Lib.hid hone
  have HV := Lib.hid hV
  have HB := Lib.hid hB
  clear hO hone hV hB
  by_cases hlt : i < l.length
  · rcases HR.out.keep HB.out with h0 | ⟨b, o, rfl, hc⟩
    · omega
    obtain ⟨c0, c1, c2⟩ := hc i hlt
    have hst := Ev l i hlt
    have hdead := Et l (i + 1)
    have hsf := LS l i hlt
    have hso := HST.out _ (List.getElem_mem hlt)
    obtain ⟨s, hs⟩ : ∃ s, l[i] = s := ⟨_, rfl⟩
    rw [hs] at c0 c1 c2 hst hsf hso
    rw [HRI.out] at hst
    rw [HF.out] at hsf
    have hok : s.ok = true ∧ s.takes ≤ (fs.length : Int) := by
      cases hok : s.ok with
      | true =>
        refine ⟨rfl, ?_⟩
        by_cases h : s.takes ≤ (fs.length : Int)
        · exact h
        · have := hdead (by rw [hst]; simp [As, h])
          rw [HRT.out] at this; cases this
      | false =>
        have := hdead (by rw [hst]; simp [As, hok])
        rw [HRT.out] at this; cases this
    obtain ⟨hok, htk⟩ := hok
    have hrg := Bn s hok
    have hst2 : AG (l.take (i + 1)) = some ((fs.length : Int) - (s.takes - 1)) := by rw [hst]; simp [As, hok, htk]
    obtain ⟨q, hq⟩ : ∃ q : Nat, s.takes = q := ⟨s.takes.toNat, by omega⟩
    obtain ⟨at', hat'⟩ : ∃ at' : Nat, fs.length = at' + q := ⟨fs.length - q, by omega⟩
    have HFS : Hid (Dr (l.take (i + 1)) = fs.take at' ++ [Co s (fs.drop at')]) := Lib.hid (by rw [hsf]; unfold FF; rw [hq, hat']; simp)
    have HRS : Hid (AG (l.take (i + 1)) = some ((at' : Int) + 1)) := Lib.hid (by rw [hst2, hq, hat']; congr 1; push_cast; omega)
    have HTK0 := fun (w' : World) (hb : Below w.heap.size w w') => Dg s.k s.t s.n w' hso.2.1 (HL.out.below hb)
    rw [Df s hok, hq] at HTK0
    have HTK := Lib.hid HTK0
    have HSO := Lib.hid hso
    have HOK := Lib.hid hok
    have HQ := Lib.hid hq
    have hq64 : q ≤ 64 := by omega
    have hfl : fs.length ≤ i := by
      have := Ll (l.take i) _ HRI.out
      rw [List.length_take] at this
      omega
    clear hst hst2 hdead hsf hs HTK0 hok hso htk hrg hc hq
    rcases HO.out.2 with ⟨e, h0⟩ | ⟨g, cap, cur, e, hBg, hg, h1, h2, hcs, htk⟩
    · obtain rfl : q = 0 := by omega
      obtain rfl : at' = 0 := by omega
      obtain rfl := List.length_eq_zero_iff.1 h0
      subst e
      clear hat' h0 hq64
      have hbx := Ad (w := wr) (.cells #[.int .u8 s.k, .string s.t, .int .i64 s.n] 43)
      have HTK1 := Lib.hid (HTK.out _ (Aa HB.out HB.out.size hbx))
      have HBX := Lib.hid hbx
      clear hbx
      go_upto_region 7 with (go_at_call 20; refine (HTK1.out).mono ?_; rintro e w6 ⟨rfl, hb6⟩; have HB6 := Lib.hid hb6; clear hb6)
      have hk6 := blk HB6.out (Fp (o := .cells #[.int .u8 s.k, .string s.t, .int .i64 s.n] 43) (w := wr))
      have HB60 := Lib.hid (Aa HBX.out HBX.out.size HB6.out)
      obtain ⟨k0, k1, k2, k3⟩ := Ak (show w6.drew.heap[wr.heap.size]? = some (.cells #[.int .u8 s.k, .string s.t, .int .i64 s.n] 43 (0, 0)) from hk6)
      have HSD : Hid (w6.drew.cell? ⟨wr.heap.size, 0, none⟩ = some (.int .u8 s.k) ∧ w6.drew.cell? ⟨wr.heap.size, 1, none⟩ = some (.string s.t) ∧ w6.drew.cell? ⟨wr.heap.size, 2, none⟩ = some (.int .i64 s.n)) := Lib.hid ⟨k0, k1, k2⟩
      have HB6D := Lib.hid (Aa HB60.out HB60.out.size (Below.refl w6.heap.size w6).drew)
      have HCL : Hid (∀ w', Calls Tryz.prog 44 #[.slice none 0 0] w' fun x w2 => ∃ v, x = .returned v ∧ w2.ownsRow w'.heap.size 61 1 v 0 [] ∧ Below w'.heap.size w' w2) := Lib.hid (fun w' => Mg w' [] none 0 (by simp) (fun _ => rfl) (fun ad e => by cases e) (by simp))
      have HN1 : Hid (∀ (w8 : World) (A8 : Option Addr) (c8 : Nat), Below wr.heap.size wr w8 → Calls Tryz.prog 43 #[.agg #[.int .u8 s.k, .string s.t, .int .i64 s.n], .slice A8 0 c8] w8 (Da (fun _ => False) w8 (Co s []))) := Lib.hid (fun w8 A8 c8 hb1 => F3 _ s [] A8 c8 0 w8 HSO.out HOK.out HQ.out rfl (Nat.zero_le _) (Or.inl rfl) (HL.out.below (Aa HB.out HB.out.size hb1)) (fun b hb => hb.elim))
      have l6 : wr.heap.size < w6.heap.size := lt_of_block hk6
      clear k0 k1 k2 k3 hk6
      go_region_held3 (fun w' => w'.cell? ⟨wr.heap.size, 0, none⟩ = some (.int .u8 s.k) ∧ w'.cell? ⟨wr.heap.size, 1, none⟩ = some (.string s.t) ∧ w'.cell? ⟨wr.heap.size, 2, none⟩ = some (.int .i64 s.n))
        (first | (with_reducible exact HSD.out) | (with_reducible exact HS8.out) | (with_reducible exact HS9.out))
        (first | (go_at_call 44; refine (HCL.out _).mono ?_; rintro e w8 ⟨v8, rfl, ho8, hb8⟩; obtain ⟨A8, c8, rfl, hc8, _⟩ := Bt ho8; have HS8 : Hid (w8.cell? ⟨wr.heap.size, 0, none⟩ = some (.int .u8 s.k) ∧ w8.cell? ⟨wr.heap.size, 1, none⟩ = some (.string s.t) ∧ w8.cell? ⟨wr.heap.size, 2, none⟩ = some (.int .i64 s.n)) := Lib.hid ⟨Ac hb8 HSD.out.1, Ac hb8 HSD.out.2.1, Ac hb8 HSD.out.2.2⟩; have HB8 := Lib.hid (Aa HB6D.out HB6D.out.size hb8); clear ho8 hb8) | (go_at_call 43; refine (HN1.out _ _ _ HB8.out).mono ?_; rintro e w9 ⟨hb9, v9, rfl, ho9, hn9⟩; have HN9 := Lib.hid hn9; have HS9 : Hid (w9.cell? ⟨wr.heap.size, 0, none⟩ = some (.int .u8 s.k) ∧ w9.cell? ⟨wr.heap.size, 1, none⟩ = some (.string s.t) ∧ w9.cell? ⟨wr.heap.size, 2, none⟩ = some (.int .i64 s.n)) := Lib.hid ⟨Ac hb9 HS8.out.1, Ac hb9 HS8.out.2.1, Ac hb9 HS8.out.2.2⟩; have HB9 := Lib.hid (Aa HB8.out HB8.out.size hb9); obtain ⟨T9, x9, fn9, rfl, _⟩ := hn9; clear hb9))
      all_goals
        obtain ⟨i0, hi0, hz00, hz1, hz2⟩ := info_parts Tryz.infoN
        have E1 : Hid (0 + 1 ≤ maxLen) := Lib.hid (by unfold maxLen; omega)
        have E2 : Hid ((0 + 1) * 16 ≤ 140737488355328) := Lib.hid (by omega)
        have E3 : Hid (w.heap.size ≤ (w9.alloc (.cells #[.iface T9 x9] 61)).heap.size) := Lib.hid (by have := HB9.out.size; have := HB.out.size; simp; omega)
        have E5 : Hid (∀ u ∈ ([.iface T9 x9] : List Value), u.oneCell' = true) := Lib.hid (by intro u hu; simp only [List.mem_singleton] at hu; subst hu; rfl)
        go_wp2_with (at_builtin; refine wpList_append_lies _ rfl _ _ 98 rfl w.heap.size 61 i0 .nilIface 1 16 Tryz.underlying98 hi0 hz00 hz1 hz2 rfl (by decide) (.slice none 0 0) 0 [] (by rfl) (World.ownsRow_nil _ _ _ _) ⟨w9.heap.size, 0, none⟩ 1 1 [.iface T9 x9] (by rfl) rfl Ep E5.out (by decide) E1.out E2.out E3.out (w9.heap.size + 1) (by simp) ?_; intro g' cap' w2 hown hgrow hat2 hlt2; have HTS := Lib.hid (N3 HB.out HB9.out rfl HN9.out hgrow hown hat2); clear hown hgrow hat2 hlt2)
        go_roundw
        case rel => exact ⟨i + 1, _, _, rfl, by go_num, by omega, HFS, Lib.hid (by rw [HRS.out]; rfl), HTS.out⟩
        case measure => simp [intOf]; omega
    · rw [hat'] at e
      obtain ⟨r, rfl⟩ : ∃ r, cap = at' + r := ⟨cap - at', by omega⟩
      have hqr : q ≤ r := by omega
      have hS1 : ((at' + q : Nat) : Int) - (q : Int) = (at' : Int) := by omega
      have hS2 : (at' : Int) + (q : Int) - (q : Int) = (at' : Int) := by omega
      have hat64 : at' ≤ 200 := by omega
      have hr63 : at' + r ≤ 9223372036854775807 := by unfold maxLen at h2; omega
      subst e
      have HFL := Lib.hid hat'
      have HO2 : Hid (wr.ownsRow w.heap.size 61 1 (.slice (some ⟨g, 0, none⟩) (at' + q) (at' + r)) (at' + q) vals) := Lib.hid (by have h := HO.out; rw [hat'] at h; exact h)
      clear hcs htk hg h1 h2 hat'
      have hbx := Ad (w := wr) (.cells #[.int .u8 s.k, .string s.t, .int .i64 s.n] 43)
      have HTK1 := Lib.hid (HTK.out _ (Aa HB.out HB.out.size hbx))
      have HBX := Lib.hid hbx
      clear hbx
      go_upto_region 7 with (go_at_call 20; refine (HTK1.out).mono ?_; rintro e w6 ⟨rfl, hb6⟩; have HB6 := Lib.hid hb6; clear hb6)
      have hk6 := blk HB6.out (Fp (o := .cells #[.int .u8 s.k, .string s.t, .int .i64 s.n] 43) (w := wr))
      have HB60 := Lib.hid (Aa HBX.out HBX.out.size HB6.out)
      obtain ⟨k0, k1, k2, k3⟩ := Ak (show w6.drew.heap[wr.heap.size]? = some (.cells #[.int .u8 s.k, .string s.t, .int .i64 s.n] 43 (0, 0)) from hk6)
      have HSD : Hid (w6.drew.cell? ⟨wr.heap.size, 0, none⟩ = some (.int .u8 s.k) ∧ w6.drew.cell? ⟨wr.heap.size, 1, none⟩ = some (.string s.t) ∧ w6.drew.cell? ⟨wr.heap.size, 2, none⟩ = some (.int .i64 s.n)) := Lib.hid ⟨k0, k1, k2⟩
      have HB6D := Lib.hid (Aa HB60.out HB60.out.size (Below.refl w6.heap.size w6).drew)
      have hlv : vals.length = at' + q := by have := HO.out.1; have := HFL.out; omega
      have hld : (vals.drop at').length = q := by rw [List.length_drop, hlv]; omega
      have HLV := Lib.hid hlv
      obtain ⟨A', hA', hcel⟩ : ∃ A', (if r = 0 then some (⟨g, 0, none⟩ : Addr) else some ⟨g, at', none⟩) = some A' ∧ ∀ j u, (vals.drop at')[j]? = some u → wr.cell? (A'.add j) = some u := by
        by_cases hr0 : r = 0
        · refine ⟨⟨g, 0, none⟩, if_pos hr0, fun j u hu => ?_⟩
          have := (List.getElem?_eq_some_iff.1 hu).1
          omega
        · refine ⟨⟨g, at', none⟩, if_neg hr0, fun j u hu => ?_⟩
          have hj := (List.getElem?_eq_some_iff.1 hu).1
          rw [AS]
          rw [List.getElem?_drop] at hu
          exact (HO2.out.cellAt (at' + j) (by omega)).trans hu
      have HCL : Hid (∀ w', Below wr.heap.size wr w' → Calls Tryz.prog 44 #[.slice (some A') q r] w' fun x w2 => ∃ v, x = .returned v ∧ w2.ownsRow w'.heap.size 61 1 v q (vals.drop at') ∧ Below w'.heap.size w' w2) := Lib.hid (fun w' hb => by
        have h := Mg w' (vals.drop at') (some A') r (by omega) (fun e => by cases e) (fun ad e j u hu => by cases e; exact Kf hb (hcel j u hu)) (fun u hu => HONE.out u (List.mem_of_mem_drop hu))
        rw [hld] at h
        exact h)
      have HN1 : Hid (∀ (w' w8 : World) (A8 : Option Addr) (c8 : Nat), Below wr.heap.size wr w' → Below w'.heap.size w' w8 → w8.ownsRow w'.heap.size 61 1 (.slice A8 q c8) q (vals.drop at') → q ≤ c8 → Calls Tryz.prog 43 #[.agg #[.int .u8 s.k, .string s.t, .int .i64 s.n], .slice A8 q c8] w8 (Da (fun b => (Value.slice (some ⟨g, 0, none⟩) (at' + q) (at' + r)).ownBlock = some b) w8 (Co s (fs.drop at')))) := Lib.hid (fun w' w8 A8 c8 hb1 hb2 ho hc8 => by
        have hbb := Aa hb1 hb1.size hb2
        have lg : g < wr.heap.size := (HO.out.lt g rfl).2
        refine F3 _ s (fs.drop at') A8 c8 q w8 HSO.out HOK.out HQ.out (by rw [List.length_drop, HFL.out]; omega) hc8 ?_ (HL.out.below (Aa HB.out HB.out.size hbb)) (fun b hb => by cases hb; exact Nat.lt_of_lt_of_le lg hbb.size)
        rcases ho.2 with ⟨_, h0⟩ | ⟨g8, cap8, cur8, e8, hB8, hg8, _⟩
        · exact Or.inl (by rw [List.length_drop, HFL.out]; omega)
        · cases e8
          refine Or.inr ⟨g8, 0, rfl, lt_of_block hg8, fun e => by have e2 : g = g8 := Option.some.inj e; have := hb1.size; omega, fun j hj => ?_⟩
          rw [List.length_drop, HFL.out] at hj
          obtain ⟨v, hv, hn⟩ := HV.out (at' + j) (by rw [HFL.out]; omega)
          refine ⟨v, ?_, ?_⟩
          · rw [Nat.zero_add, ho.cellAt j (by omega), List.getElem?_drop]; exact hv
          · have e : (fs.drop at')[j]'(by rw [List.length_drop, HFL.out]; exact hj) = fs[at' + j]'(by rw [HFL.out]; omega) := List.getElem_drop
            rw [e]
            exact hn.later (Later.of_below hbb))
      have l6 : wr.heap.size < w6.heap.size := lt_of_block hk6
      clear k0 k1 k2 k3 hk6 hcel hld hlv
      have b1 : (0 : Int) ≤ (at' : Int) := by omega
      have b2 : (at' : Int) ≤ ((at' + q : Nat) : Int) := by omega
      have b3 : (at' : Int) ≤ (at' : Int) + (q : Int) := by omega
      have b4 : (at' : Int) ≤ (at' : Int) + (r : Int) := by omega
      have b5 : (at' : Int) ≤ ((at' + r : Nat) : Int) := by omega
      have b6 : at' ≤ at' + q := by omega
      have b7 : at' ≤ at' + r := by omega
      go_region_held3 (fun w' => w'.cell? ⟨wr.heap.size, 0, none⟩ = some (.int .u8 s.k) ∧ w'.cell? ⟨wr.heap.size, 1, none⟩ = some (.string s.t) ∧ w'.cell? ⟨wr.heap.size, 2, none⟩ = some (.int .i64 s.n))
        (first | (with_reducible exact HSD.out) | (with_reducible exact HS8.out) | (with_reducible exact HS9.out))
        (first | (go_at_call 44; refine (HCL.out _ HB6D.out).mono ?_; rintro e w8 ⟨v8, rfl, ho8, hb8⟩; obtain ⟨A8, c8, rfl, hc8, _⟩ := Bt ho8; have HS8 : Hid (w8.cell? ⟨wr.heap.size, 0, none⟩ = some (.int .u8 s.k) ∧ w8.cell? ⟨wr.heap.size, 1, none⟩ = some (.string s.t) ∧ w8.cell? ⟨wr.heap.size, 2, none⟩ = some (.int .i64 s.n)) := Lib.hid ⟨Ac hb8 HSD.out.1, Ac hb8 HSD.out.2.1, Ac hb8 HSD.out.2.2⟩; have HO8 := Lib.hid ho8; have HB8 := Lib.hid hb8; clear ho8 hb8) | (go_at_call 43; refine (HN1.out _ _ _ _ HB6D.out HB8.out HO8.out hc8).mono ?_; rintro e w9 ⟨hb9, v9, rfl, ho9, hn9⟩; have HN9 := Lib.hid hn9; have HS9 : Hid (w9.cell? ⟨wr.heap.size, 0, none⟩ = some (.int .u8 s.k) ∧ w9.cell? ⟨wr.heap.size, 1, none⟩ = some (.string s.t) ∧ w9.cell? ⟨wr.heap.size, 2, none⟩ = some (.int .i64 s.n)) := Lib.hid ⟨Ac hb9 HS8.out.1, Ac hb9 HS8.out.2.1, Ac hb9 HS8.out.2.2⟩; have HB9 := Lib.hid (Aa (Aa HB6D.out HB6D.out.size HB8.out) (Aa HB6D.out HB6D.out.size HB8.out).size hb9); obtain ⟨T9, x9, fn9, rfl, _⟩ := hn9; clear hb9))
      all_goals
        obtain ⟨i0, hi0, hz00, hz1, hz2⟩ := info_parts Tryz.infoN
        have HOP := Lib.hid (AM (GX HO2.out b6) HB9.out)
        have E1 : Hid (at' + 1 ≤ maxLen) := Lib.hid (by unfold maxLen; omega)
        have E2 : Hid ((at' + 1) * 16 ≤ 140737488355328) := Lib.hid (by omega)
        have E3 : Hid (w.heap.size ≤ (w9.alloc (.cells #[.iface T9 x9] 61)).heap.size) := Lib.hid (by have := HB9.out.size; have := HB.out.size; simp; omega)
        have E5 : Hid (∀ u ∈ ([.iface T9 x9] : List Value), u.oneCell' = true) := Lib.hid (by intro u hu; simp only [List.mem_singleton] at hu; subst hu; rfl)
        go_wp2_with (at_builtin; refine wpList_append_lies _ rfl _ _ 98 rfl w.heap.size 61 i0 .nilIface 1 16 Tryz.underlying98 hi0 hz00 hz1 hz2 rfl (by decide) (.slice (some ⟨g, 0, none⟩) at' (at' + r)) at' (vals.take at') (by rfl) (HOP.out.alloc _) ⟨w9.heap.size, 0, none⟩ 1 1 [.iface T9 x9] (by rfl) rfl Ep E5.out (by decide) E1.out E2.out E3.out (w9.heap.size + 1) (by simp) ?_; intro g' cap' w2 hown hgrow hat2 hlt2; have HTS := Lib.hid (OQ HO2.out HFL.out HONE.out HV.out HB.out HB9.out rfl HN9.out hgrow hown hat2); clear hown hgrow hat2 hlt2)
        go_roundw
        case rel => exact ⟨i + 1, _, _, rfl, by go_num, by omega, HFS, Lib.hid (by rw [HRS.out, List.length_append, List.length_take, HFL.out]; simp), HTS.out⟩
        case measure => simp [intOf]; omega
  · have hfull : l.take i = l := List.take_of_length_le (by omega)
    have h1 := HRI.out
    rw [hfull, HRT.out] at h1
    have hfl1 : fs.length = 1 := by have := Option.some.inj h1; omega
    have h2 := HF.out
    rw [hfull] at h2
    obtain ⟨F, rfl⟩ : ∃ F, fs = [F] := by
      match fs, hfl1 with
      | [F], _ => exact ⟨F, rfl⟩
    have HS := Lib.hid h2
    obtain ⟨v, hv, hn⟩ := HV.out 0 (by simp)
    rcases HO.out.2 with ⟨_, h0⟩ | ⟨g, cap, cur, e, hBg, hg, hc1, hc2, hcs, htk⟩
    · cases h0
    · subst e
      have hcell := (HO.out.cellAt 0 (by simp)).trans hv
      have HN' : Hid (Node (fun _ => False) wr v F) := Lib.hid (hn.move (Nat.le_refl _) (fun b hb hs => ⟨rfl, fun h => h⟩))
      obtain ⟨Tv, xv, fv, rfl, _⟩ := hn
      clear h1 h2 hfull hfl1 hg hc1 hc2 hcs htk hv
      go_wp2_with fail
      go_ret
      exact ⟨HB.out, _, F, rfl, HN'.out, HS.out⟩
/- expr.Eval, expr.Holds of any steps (printed by genme.py). -/
theorem GM (l : List ST) (a : Option Addr) (c : Nat) (row : VT) (r0 r1 r2 r3 r4 r5 : Value) (w : World) (hlen : l.length ≤ LIM) (hst : ∀ s ∈ l, Be s) (hL : Laid w) (hrow : RowS w l a) (hr : RV w 0 w.heap.size row [r0, r1, r2, r3, r4, r5]) :
   Calls Tryz.prog 9 #[.slice a l.length c, .agg #[r0, r1, r2, r3, r4, r5]] w (EvPost w (Bj l row)) := by
 have hR := fun (w' : World) (hb : Below w.heap.size w w') => EZ l a c w' (hL.below hb) hlen (fun s hs => (hst s hs).2.1) (hrow.keep hb)
 have hC := fun (w' : World) (hb : Below w.heap.size w w') => Bu row w' _ 0 w'.heap.size (hr.grow hb) (Nat.le_refl _) (hL.below hb).tabs
 have hr0 := hr
 obtain ⟨kr, br, nr, sr, lr, fr, ar1, cr1, ar2, cr2, hrw, er, hj⟩ := RV.mk_parts hr
 clear hj
 simp only [List.cons.injEq, and_true] at er
 obtain ⟨rfl, rfl, rfl, rfl, rfl, rfl⟩ := er
 unfold Bj
 cases hb : Av l with
 | false =>
   rw [hb] at hR
   rw [if_neg (by simp)]
   exact L5 l a c kr br nr sr ar1 lr cr1 ar2 fr cr2 w hR
 | true =>
   rw [hb] at hR
   rw [if_pos rfl]
   by_cases hc : Ao row 0 = 0
   · rw [if_pos hc]
     rw [hc] at hC
     obtain ⟨h1, h2⟩ := Fa hb
     exact NF l a c kr br nr sr ar1 lr cr1 ar2 fr cr2 w row hrw hL hr0 hR hC (fun w' hb' => LY l a c w' h2 h1 hst (hL.below hb') (hrow.keep hb'))
   · rw [if_neg hc]
     exact M9 l a c kr br nr sr ar1 lr cr1 ar2 fr cr2 w _ (by simpa using hc) hR hC
section
set_option maxHeartbeats 2000000
set_option maxRecDepth 100000
theorem KF (l : List ST) (a : Option Addr) (c : Nat) (row : VT) (r0 r1 r2 r3 r4 r5 : Value) (w : World) (hlen : l.length ≤ LIM) (hst : ∀ s ∈ l, Be s) (hL : Laid w) (hrow : RowS w l a) (hr : RV w 0 w.heap.size row [r0, r1, r2, r3, r4, r5]) :
   Calls Tryz.prog 18 #[.slice a l.length c, .agg #[r0, r1, r2, r3, r4, r5]] w (FW w (Fg l row)) := by
 have HE := Lib.hid (fun (w' : World) (hb : Below w.heap.size w w') => GM l a c row r0 r1 r2 r3 r4 r5 w' hlen hst (hL.below hb) (hrow.keep hb) (hr.grow hb))
 have HC := Lib.hid (fun (w' : World) (hb : Below w.heap.size w w') => Bu row w' _ 0 w'.heap.size (hr.grow hb) (Nat.le_refl _) (hL.below hb).tabs)
 obtain ⟨kr, br, nr, sr, lr, fr, ar1, cr1, ar2, cr2, hrw, er, hj⟩ := RV.mk_parts hr
 clear hj
 simp only [List.cons.injEq, and_true] at er
 obtain ⟨rfl, rfl, rfl, rfl, rfl, rfl⟩ := er
 unfold Fg
 generalize Ao row 0 = y at *
 obtain ⟨⟨⟨k, b, n, s, l', f⟩, wy⟩, hrz⟩ : ∃ r : Rz, Bj l row = r := ⟨_, rfl⟩
 rw [hrz] at HE ⊢
 have hl1 : l.length ≤ 1048576 := hlen
 clear hst hL hrow hr hrw hrz hlen
 show Calls _ _ _ _ (FW w (if l.length = 0 then (decide (y = 0), y) else if wy = 0 ∧ 1 < k then (false, 5) else (b, wy)))
 have HD := Lib.hid (Ad (w := w) (.cells #[.int .u8 kr, .bool br, .int .i64 nr, .string sr, .slice ar1 lr.len cr1, .slice ar2 fr.len cr2] 27))
 by_cases h0 : l.length = 0
 · rw [if_pos h0]
   have q0 : ((l.length : Int) == 0) = true := by simp [h0]
   rw [h0] at *
   go_enter Tryz.func18, Tryz.ntmps18
   go_wp2_with (go_at_call 17; refine (HC.out _ HD.out).mono ?_; rintro e w8 ⟨rfl, hb8⟩; have HB8 := Lib.hid (Aa HD.out HD.out.size hb8); clear hb8)
   go_ret2
   exact ⟨rfl, HB8.out⟩
 · rw [if_neg h0]
   have q0 : ((l.length : Int) == 0) = false := by rw [beq_eq_false_iff_ne]; omega
   have HN := Lib.hid h0
   clear h0
   generalize l.length = m at *
   by_cases hw : wy = 0
   · subst hw
     by_cases hk : 1 < k
     · rw [if_pos ⟨rfl, hk⟩]
       have hk' : decide (1 < k) = true := by simpa using hk
       go_enter Tryz.func18, Tryz.ntmps18
       go_wp2_with (go_at_call 9; refine (HE.out _ HD.out).mono ?_; intro e w8 hev; obtain ⟨hb8, d1, e1, d2, e2, rfl, hv8⟩ := hev.parts; have HB8 := Lib.hid (Aa HD.out HD.out.size hb8); clear hev hb8 hv8)
       go_ret2
       exact ⟨rfl, Aa HB8.out HB8.out.size (Ad _)⟩
     · rw [if_neg (fun h => hk h.2)]
       have hk' : decide (1 < k) = false := by simpa using hk
       go_enter Tryz.func18, Tryz.ntmps18
       go_wp2_with (go_at_call 9; refine (HE.out _ HD.out).mono ?_; intro e w8 hev; obtain ⟨hb8, d1, e1, d2, e2, rfl, hv8⟩ := hev.parts; have HB8 := Lib.hid (Aa HD.out HD.out.size hb8); clear hev hb8 hv8)
       go_ret2
       exact ⟨rfl, Aa HB8.out HB8.out.size (Ad _)⟩
   · rw [if_neg (fun h => hw h.1)]
     have hw' : (wy == 0) = false := by simpa using hw
     go_enter Tryz.func18, Tryz.ntmps18
     go_wp2_with (go_at_call 9; refine (HE.out _ HD.out).mono ?_; intro e w8 hev; obtain ⟨hb8, d1, e1, d2, e2, rfl, hv8⟩ := hev.parts; have HB8 := Lib.hid (Aa HD.out HD.out.size hb8); clear hev hb8 hv8)
     go_ret2
     exact ⟨rfl, Aa HB8.out HB8.out.size (Ad _)⟩
end
end Go.Proofs.YtbemgcjckchdjaaGreatDoor
