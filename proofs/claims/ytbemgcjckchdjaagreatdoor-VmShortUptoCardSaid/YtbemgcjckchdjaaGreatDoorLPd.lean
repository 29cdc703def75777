import Derived.Test.YtbemgcjckchdjaaGreatDoorLPa
import Derived.Maps.Own
import Derived.Maps.OwnSet
import Derived.SliceStrings
/- parse.apart. -/
namespace Go.Proofs.YtbemgcjckchdjaaGreatDoor
open Go.RowKit Go.WideMaps Go.Maps
set_option linter.unusedSimpArgs false
set_option linter.unusedVariables false
theorem Sq : Keyed Tryz.prog 9 := string_keyed Tryz.underlying9
theorem SY (w : World) : (zeroValue 3).run Tryz.prog w = .ok (.int .i64 0) w := by kernel_rfl
def Si (D : DataW Unit) (k : Lit) : Int := match D.atKey k (.lit (.int .i64 0)) with | .lit (.int _ n) => n | _ => 0
def FH (D : DataW Unit) (s : ByteArray) : DataW Unit := D.put (.string s.data.toList) (.lit (.int .i64 (wrap64 (Si D (.string s.data.toList) + 1))))
def Cd (l : List ByteArray) : DataW Unit := l.foldl FH (.map [])
def Cs (l : List ByteArray) : Bool := (Maps.size (Cd l) : Int) == (l.length : Int)
theorem O4 (l : List ByteArray) (i : Nat) (h : i < l.length) : Cd (l.take (i + 1)) = FH (Cd (l.take i)) l[i] := by
 unfold Cd
 rw [List.take_succ_eq_append_getElem h, List.foldl_append]
 rfl
set_option maxHeartbeats 2000000 in
set_option maxRecDepth 100000 in
theorem L0 (l : List ByteArray) (a : Option Addr) (c : Nat) (w : World) (hlen : l.length ≤ 2097152) (hsz : ∀ p ∈ l, p.size ≤ LIM) (hr : l.length = 0 ∨ ∃ b o, a = some ⟨b, o, none⟩ ∧ ∀ i, i < l.length → w.cell? ⟨b, o + i, none⟩ = some (.string (l.getD i ⟨#[]⟩))) :
  Calls Tryz.prog 60 #[.slice a l.length c] w fun e w' => e = .returned (.bool (Cs l)) ∧ Below w.heap.size w w' := by
 have hmm := @run_makeMap Tryz.prog
 have HSZ := Lib.hid hsz
 have HR := Lib.hid hr
 clear hsz hr
 go_enter Tryz.func60, Tryz.ntmps60
 go_wp2
 go_loopw [9] (fun s9 wr => ∃ i : Nat, s9 = .int .i64 i ∧ i ≤ l.length ∧ wr.ownsMap Tryz.prog 9 (plainElem (H := Unit) Tryz.prog 3) w.heap.size i (Cd (l.take i)) ∧ Below w.heap.size w wr) (fun s9 _ => l.length - (intOf s9).toNat)
 case atStart => exact ⟨0, rfl, Nat.zero_le _, World.ownsMap_made _ _ _ _, (Below.refl _ _).alloc (Nat.le_refl _) _⟩
 case round =>
  obtain ⟨i, rfl, hil, hown, hx⟩ := hrel
  by_cases hlt : i < l.length
  · rcases HR.out with h0 | ⟨b, o, rfl, hc⟩
    · omega
    have hcell := hc i hlt
    have hgd : l.getD i ⟨#[]⟩ = l[i] := by simp [List.getD, hlt]
    rw [hgd] at hcell
    have hps := HSZ.out _ (List.getElem_mem hlt)
    have hst := O4 l i hlt
    obtain ⟨p, hp⟩ : ∃ p, l[i] = p := ⟨_, rfl⟩
    rw [hp] at hcell hps hst
    have hlb : b < w.heap.size := by
      rcases Nat.lt_or_ge b w.heap.size with h' | h'
      · exact h'
      · simp [World.cell?, Array.getElem?_eq_none h'] at hcell
    have hcx := (hx.cell (p := ⟨b, o + i, none⟩) hlb).trans hcell
    have hkey : keyOf Tryz.prog 9 (.string p) = some (.string p.data.toList) := keyOf_string_mk Tryz.underlying9 (by unfold LIM at hps; unfold maxLen; omega)
    clear hcell hgd hp hc
    obtain ⟨n, hrun, hat, _⟩ := hown.lookup_int Sq Tryz.underlying162 Tryz.underlying3 (SY _) hkey
    have HST : Hid (Cd (l.take (i + 1)) = (Cd (l.take i)).put (.string p.data.toList) (.lit (.int .i64 (wrap64 (n + 1))))) := Lib.hid (by
      rw [hst]
      unfold FH Si
      rw [hat])
    have HX := Lib.hid hx
    clear hst hat hx
    go_wp2_with (at_mapUpdate; refine wpList_mapUpdate_own _ rfl _ _ _ 162 rfl 9 3 Sq Tryz.underlying162 _ w.heap.size i _ rfl hown (by unfold maxLen; omega) _ _ _ rfl rfl hkey _ [] (plainElem_int Tryz.underlying3 (wrap64_wf _)) ?_; intro w1 hown1 hgrow1)
    go_roundw
    case rel => exact ⟨i + 1, by go_num, by omega, by rw [HST.out]; exact hown1, HX.out.grown hgrow1 HX.out.size (fun j hj => by cases hj; exact Nat.le_refl _)⟩
    case measure => simp [intOf]; omega
  · have hie : l.take i = l := List.take_of_length_le (by omega)
    rw [hie] at hown
    have HX := Lib.hid hx
    clear hie hx
    go_wp2_with (at_len; refine wpList_len_own _ rfl _ 162 rfl 9 3 Tryz.underlying162 _ w.heap.size i _ rfl hown ?_)
    go_ret
    exact ⟨rfl, HX.out⟩
/- parse.names. -/
open Go.RowKit
theorem JW (s : ByteArray) (w : World) (hs : s.size ≤ LIM) (hL : Laid w) : Calls Tryz.prog 62 #[.string s] w fun e w' => e = .returned (.bool (!BT s)) ∧ Below w.heap.size w w' := by
 have H := Lib.hid (F1 s w hs hL)
 cases hn : BT s with
 | true =>
   rw [hn] at H
   clear hn
   go_enter Tryz.func62, Tryz.ntmps62
   go_wp2_with (go_at_call 58; refine (H.out).mono ?_; rintro e w7 ⟨rfl, hb⟩)
   go_ret
   exact ⟨rfl, hb⟩
 | false =>
   rw [hn] at H
   clear hn
   go_enter Tryz.func62, Tryz.ntmps62
   go_wp2_with (go_at_call 58; refine (H.out).mono ?_; rintro e w7 ⟨rfl, hb⟩)
   go_ret
   exact ⟨rfl, hb⟩
def Fx : List ByteArray → Nat → Int
 | [], _ => -1
 | p :: r, i => if BT p then Fx r (i + 1) else i
theorem KG : ∀ (l : List ByteArray) (i : Nat), decide (0 ≤ Fx l i) = !(l.all BT)
 | [], i => rfl
 | p :: r, i => by
   unfold Fx
   rw [List.all_cons]
   cases BT p with
   | true => simpa using KG r (i + 1)
   | false => simp
abbrev N4 (w : World) (l : List ByteArray) (a : Option Addr) : Prop := l.length = 0 ∨ ∃ b o, a = some ⟨b, o, none⟩ ∧ ∀ i, i < l.length → w.cell? ⟨b, o + i, none⟩ = some (.string (l.getD i ⟨#[]⟩))
set_option maxHeartbeats 1000000 in
set_option maxRecDepth 100000 in
theorem IZ (l : List ByteArray) (a : Option Addr) (c : Nat) (w : World) (hlen : l.length ≤ 2097152) (hsz : ∀ p ∈ l, p.size ≤ LIM) (hL : Laid w) (hr : N4 w l a) :
  Calls Tryz.prog 80 #[.slice a l.length c, .func (.func 62) #[] #[]] w fun e w' => e = .returned (.int .i64 (Fx l 0)) ∧ Below w.heap.size w w' := by
 obtain ⟨z, hz⟩ : ∃ z, Fx l 0 = z := ⟨_, rfl⟩
 rw [hz]
 have HZ := Lib.hid hz
 have HSZ := Lib.hid hsz
 have HR := Lib.hid hr
 have HL := Lib.hid hL
 clear hz hsz hr hL
 go_enter Tryz.func80, Tryz.ntmps80
 go_wp2
 go_loopw [8] (fun s8 wr => ∃ i : Nat, s8 = .int .i64 i ∧ i ≤ l.length ∧ Hid (Fx (l.drop i) i = z) ∧ Below w.heap.size w wr) (fun s8 _ => l.length - (intOf s8).toNat)
 case atStart => exact ⟨0, rfl, Nat.zero_le _, HZ, Below.refl _ _⟩
 case round =>
  obtain ⟨i, rfl, hil, HH, hx⟩ := hrel
  have HX := Lib.hid hx
  clear hx HZ
  by_cases hlt : i < l.length
  · rcases HR.out with h0 | ⟨b, o, rfl, hc⟩
    · omega
    have hcell := Ac HX.out (hc i hlt)
    have hgd : l.getD i ⟨#[]⟩ = l[i] := by simp [List.getD, hlt]
    rw [hgd] at hcell
    have hh := HH.out
    rw [List.drop_eq_getElem_cons hlt, Fx] at hh
    have hps := HSZ.out _ (List.getElem_mem hlt)
    obtain ⟨p, hp⟩ : ∃ p, l[i] = p := ⟨_, rfl⟩
    rw [hp] at hcell hps hh
    have HN := Lib.hid (JW p wr hps (HL.out.below HX.out))
    clear hgd hp hc hps HH
    cases hn : BT p with
    | true =>
      rw [hn] at HN hh
      rw [if_pos rfl] at hh
      have HHH := Lib.hid hh
      simp only [Bool.not_true] at HN
      clear hn hh
      go_wp2_with (go_at_call 62; refine (HN.out).mono ?_; rintro e w7 ⟨rfl, hb⟩)
      go_roundw
      case rel => exact ⟨i + 1, by go_num, by omega, HHH, Aa HX.out HX.out.size hb⟩
      case measure => simp [intOf]; omega
    | false =>
      rw [hn] at HN hh
      rw [if_neg (by simp)] at hh
      have HHH := Lib.hid hh
      simp only [Bool.not_false] at HN
      clear hn hh
      go_wp2_with (go_at_call 62; refine (HN.out).mono ?_; rintro e w7 ⟨rfl, hb⟩)
      go_ret
      exact ⟨Bc HHH.out, Aa HX.out HX.out.size hb⟩
  · have hh := HH.out
    rw [List.drop_of_length_le (by omega), Fx] at hh
    have HHH := Lib.hid hh
    clear hh HH
    go_wp2_with fail
    go_ret
    exact ⟨Bc HHH.out, HX.out⟩
theorem GJ (l : List ByteArray) (a : Option Addr) (c : Nat) (w : World) (hlen : l.length ≤ 2097152) (hsz : ∀ p ∈ l, p.size ≤ LIM) (hL : Laid w) (hr : N4 w l a) :
  Calls Tryz.prog 61 #[.slice a l.length c, .func (.func 62) #[] #[]] w fun e w' => e = .returned (.bool (!(l.all BT))) ∧ Below w.heap.size w w' := by
 have H := Lib.hid (IZ l a c w hlen hsz hL hr)
 have HE := Lib.hid (KG l 0)
 generalize Fx l 0 = z at *
 clear hlen hsz hL hr
 go_enter Tryz.func61, Tryz.ntmps61
 go_wp2_with (go_at_call 80; refine (H.out).mono ?_; rintro e w7 ⟨rfl, hb⟩)
 go_ret
 exact ⟨Ec HE.out, hb⟩
def Cv : ByteArray := ⟨#[44]⟩
def DE (s : ByteArray) (n : Int) : Bool := if n = 0 then s.toList == [] else (((Aw s Cv).length : Int) == n) && (Cs (Aw s Cv) && (Aw s Cv).all BT)
set_option maxHeartbeats 1000000 in
set_option maxRecDepth 100000 in
theorem GU (s : ByteArray) (n : Int) (w : World) (hs : s.size ≤ LIM) (hL : Laid w) : Calls Tryz.prog 40 #[.string s, .int .i64 n] w fun e w' => e = .returned (.bool (DE s n)) ∧ Below w.heap.size w w' := by
 unfold DE
 by_cases hn : n = 0
 · subst hn
   rw [if_pos rfl]
   clear hL
   have e2 : (⟨#[]⟩ : ByteArray).toList = [] := by rw [ByteArray.toList_eq]
   cases hq : (s.toList == []) with
   | true =>
     have hq2 : s.toList = [] := by simpa using hq
     have hq3 : s.toList.isEmpty = true := by rw [hq2]; rfl
     clear hq
     go_enter Tryz.func40, Tryz.ntmps40
     go_wp2
     go_ret
     exact ⟨rfl, Below.refl _ _⟩
   | false =>
     have hq3 : s.toList.isEmpty = false := by
       cases h : s.toList with
       | nil => rw [h] at hq; simp at hq
       | cons a b => rfl
     go_enter Tryz.func40, Tryz.ntmps40
     go_wp2
     go_ret
     exact ⟨rfl, Below.refl _ _⟩
 · rw [if_neg hn]
   have g0 : (n == 0) = false := by simpa using hn
   have HSP := Lib.hid (DI s Cv w hs (by decide) hL)
   have hsz : ∀ p ∈ Aw s Cv, p.size ≤ LIM := fun p hp => Nat.le_trans (C9 Cv _ s p hp) hs
   have hll : (Aw s Cv).length ≤ 2097152 := by
     have h := C8 s Cv (by decide)
     have h2 : Lib.countB s Cv ≤ s.size := Lib.countB_le Cv (by decide) s.size s (Nat.le_refl _)
     unfold LIM at hs
     omega
   generalize Aw s Cv = l at *
   have HAP := Lib.hid (fun (g : Nat) (w' : World) (hc : ∀ i, i < l.length → w'.cell? ⟨g, i, none⟩ = some (.string (l.getD i ⟨#[]⟩))) => L0 l (some ⟨g, 0, none⟩) l.length w' hll hsz (Or.inr ⟨g, 0, rfl, fun i hi => by rw [Nat.zero_add]; exact hc i hi⟩))
   have HCN := Lib.hid (fun (g : Nat) (w' : World) (hb : Below w.heap.size w w') (hc : ∀ i, i < l.length → w'.cell? ⟨g, i, none⟩ = some (.string (l.getD i ⟨#[]⟩))) => GJ l (some ⟨g, 0, none⟩) l.length w' hll hsz (hL.below hb) (Or.inr ⟨g, 0, rfl, fun i hi => by rw [Nat.zero_add]; exact hc i hi⟩))
   clear hsz hL hn
   cases hq : ((l.length : Int) == n) with
   | false =>
     rw [Bool.false_and]
     go_enter Tryz.func40, Tryz.ntmps40
     go_wp2_with (go_at_call 57; refine (HSP.out).mono ?_; rintro e w2 ⟨g, rfl, hc, hg1, hg2, hb2⟩; have HC := Lib.hid hc; clear hc)
     go_ret
     exact ⟨rfl, hb2⟩
   | true =>
   rw [Bool.true_and]
   cases ha : Cs l with
   | false =>
     rw [ha] at HAP
     rw [Bool.false_and]
     go_enter Tryz.func40, Tryz.ntmps40
     go_wp2_with (first | (go_at_call 57; refine (HSP.out).mono ?_; rintro e w2 ⟨g, rfl, hc, hg1, hg2, hb2⟩; have HC := Lib.hid hc; clear hc) | (go_at_call 60; refine (HAP.out _ _ HC.out).mono ?_; rintro e w3 ⟨rfl, hb3⟩))
     go_ret
     exact ⟨rfl, Aa hb2 hb2.size hb3⟩
   | true =>
     rw [ha] at HAP
     rw [Bool.true_and]
     cases hz : l.all BT with
     | true =>
       rw [hz] at HCN
       simp only [Bool.not_true] at HCN
       go_enter Tryz.func40, Tryz.ntmps40
       go_wp2_with (first | (go_at_call 57; refine (HSP.out).mono ?_; rintro e w2 ⟨g, rfl, hc, hg1, hg2, hb2⟩; have HC := Lib.hid hc; clear hc) | (go_at_call 60; refine (HAP.out _ _ HC.out).mono ?_; rintro e w3 ⟨rfl, hb3⟩) | (go_at_call 61; refine (HCN.out _ _ (Aa hb2 hb2.size hb3) (fun i hi => Ac hb3 (HC.out i hi))).mono ?_; rintro e w4 ⟨rfl, hb4⟩))
       go_ret
       exact ⟨rfl, Aa (Aa hb2 hb2.size hb3) (Aa hb2 hb2.size hb3).size hb4⟩
     | false =>
       rw [hz] at HCN
       simp only [Bool.not_false] at HCN
       go_enter Tryz.func40, Tryz.ntmps40
       go_wp2_with (first | (go_at_call 57; refine (HSP.out).mono ?_; rintro e w2 ⟨g, rfl, hc, hg1, hg2, hb2⟩; have HC := Lib.hid hc; clear hc) | (go_at_call 60; refine (HAP.out _ _ HC.out).mono ?_; rintro e w3 ⟨rfl, hb3⟩) | (go_at_call 61; refine (HCN.out _ _ (Aa hb2 hb2.size hb3) (fun i hi => Ac hb3 (HC.out i hi))).mono ?_; rintro e w4 ⟨rfl, hb4⟩))
       go_ret
       exact ⟨rfl, Aa (Aa hb2 hb2.size hb3) (Aa hb2 hb2.size hb3).size hb4⟩
/- parse.Takes. -/
theorem Ak {w : World} {b : Nat} {a0 a1 a2 : Value} {T : TypeId} (h : w.heap[b]? = some (.cells #[a0, a1, a2] T (0, 0))) :
  w.cell? ⟨b, 0, none⟩ = some a0 ∧ w.cell? ⟨b, 1, none⟩ = some a1 ∧ w.cell? ⟨b, 2, none⟩ = some a2 ∧ (∀ o, w.frozen? ⟨b, o, none⟩ = false) := by
 simp [World.cell?, World.frozen?, h]
def Bd (k : Int) (t : ByteArray) (n : Int) : Bool := (decide (k = 5 ∨ k = 6 ∨ k = 8) || (t.toList == [])) && (decide (k = 4 ∨ k = 7 ∨ k = 8) || (n == 0))
def AC (k : Int) (t : ByteArray) (n : Int) : Bool :=
 if k = 0 then false else if k = 4 then decide (0 ≤ n) else if k = 5 then decide (t.size ≤ 1024) && Lib.validD t.data.toList else if k = 6 then DZ t
 else if k = 7 then decide (0 ≤ n) && decide (n ≤ 64) else if k = 8 then (decide (0 ≤ n) && decide (n ≤ 64)) && DE t n else decide (k < 23)
def AJ (k n : Int) : Int := if 1 ≤ k ∧ k ≤ 6 then 0 else if k = 7 ∨ k = 8 then n else if 9 ≤ k ∧ k ≤ 11 then 1 else 2
def AI (k : Int) (t : ByteArray) (n : Int) : Value := if AC k t n && Bd k t n then .tuple #[.int .i64 (AJ k n), .bool true] else .tuple #[.int .i64 0, .bool false]
set_option maxHeartbeats 1000000 in
set_option maxRecDepth 100000 in
theorem RI (t : ByteArray) (n : Int) (w : World) : Calls Tryz.prog 20 #[.agg #[.int .u8 0, .string t, .int .i64 n]] w fun e w' => e = .returned (.tuple #[.int .i64 0, .bool false]) ∧ Below w.heap.size w w' := by
 go_enter Tryz.func20, Tryz.ntmps20
 go_wp2_with fail
 have hS := Af (o := .cells #[.int .u8 0, .string ⟨#[]⟩, .int .i64 0] 43) (Ab w (.cells #[.int .u8 0, .string t, .int .i64 n] 43))
 have hB := Ab (w.alloc (.cells #[.int .u8 0, .string t, .int .i64 n] 43)) (.cells #[.int .u8 0, .string ⟨#[]⟩, .int .i64 0] 43)
 have hD := Aj (w := w) (.cells #[.int .u8 0, .string t, .int .i64 n] 43) (.cells #[.int .u8 0, .string ⟨#[]⟩, .int .i64 0] 43)
 have esz : (w.alloc (.cells #[.int .u8 0, .string t, .int .i64 n] 43)).heap.size = w.heap.size + 1 := by simp
 rw [esz] at hB
 generalize (w.alloc (.cells #[.int .u8 0, .string t, .int .i64 n] 43)).alloc (.cells #[.int .u8 0, .string ⟨#[]⟩, .int .i64 0] 43) = W at *
 obtain ⟨s0, s1, s2, s3⟩ := Ak hS
 obtain ⟨b0, b1, b2, b3⟩ := Ak hB
 have HS := Lib.hid hS
 have HB := Lib.hid hB
 have HD := Lib.hid hD
 clear hS hB hD esz
 go_quiet (fail)
 go_wp2_with fail
 go_ret2
 exact ⟨rfl, Aa HD.out HD.out.size (Al _ _)⟩
set_option maxHeartbeats 1000000 in
set_option maxRecDepth 100000 in
theorem RJ (t : ByteArray) (n : Int) (w : World) : Calls Tryz.prog 20 #[.agg #[.int .u8 1, .string t, .int .i64 n]] w fun e w' => e = .returned (if (t.toList == []) && (n == 0) then .tuple #[.int .i64 0, .bool true] else .tuple #[.int .i64 0, .bool false]) ∧ Below w.heap.size w w' := by
 have e0 : (⟨#[]⟩ : ByteArray).toList = [] := by rw [ByteArray.toList_eq]
 cases h1 : (t.toList == []) with
 | false =>
   have h2 : t.toList.isEmpty = false := by
     cases h : t.toList with
     | nil => rw [h] at h1; simp at h1
     | cons a b => rfl
   simp only [Bool.false_and, Bool.false_eq_true, if_false]
   go_enter Tryz.func20, Tryz.ntmps20
   go_wp2_with fail
   have hS := Af (o := .cells #[.int .u8 1, .string ⟨#[]⟩, .int .i64 0] 43) (Ab w (.cells #[.int .u8 1, .string t, .int .i64 n] 43))
   have hB := Ab (w.alloc (.cells #[.int .u8 1, .string t, .int .i64 n] 43)) (.cells #[.int .u8 1, .string ⟨#[]⟩, .int .i64 0] 43)
   have hD := Aj (w := w) (.cells #[.int .u8 1, .string t, .int .i64 n] 43) (.cells #[.int .u8 1, .string ⟨#[]⟩, .int .i64 0] 43)
   have esz : (w.alloc (.cells #[.int .u8 1, .string t, .int .i64 n] 43)).heap.size = w.heap.size + 1 := by simp
   rw [esz] at hB
   generalize (w.alloc (.cells #[.int .u8 1, .string t, .int .i64 n] 43)).alloc (.cells #[.int .u8 1, .string ⟨#[]⟩, .int .i64 0] 43) = W at *
   obtain ⟨s0, s1, s2, s3⟩ := Ak hS
   obtain ⟨b0, b1, b2, b3⟩ := Ak hB
   have HS := Lib.hid hS
   have HB := Lib.hid hB
   have HD := Lib.hid hD
   clear hS hB hD esz
   go_quiet (fail)
   go_wp2_with fail
   go_ret2
   exact ⟨rfl, Aa HD.out HD.out.size (Al _ _)⟩
 | true =>
 have h2 : t.toList.isEmpty = true := by
   cases h : t.toList with
   | nil => rfl
   | cons a b => rw [h] at h1; simp at h1
 cases h3 : (n == 0) with
 | false =>
   simp only [Bool.and_false, Bool.false_eq_true, if_false]
   go_enter Tryz.func20, Tryz.ntmps20
   go_wp2_with fail
   have hS := Af (o := .cells #[.int .u8 1, .string ⟨#[]⟩, .int .i64 0] 43) (Ab w (.cells #[.int .u8 1, .string t, .int .i64 n] 43))
   have hB := Ab (w.alloc (.cells #[.int .u8 1, .string t, .int .i64 n] 43)) (.cells #[.int .u8 1, .string ⟨#[]⟩, .int .i64 0] 43)
   have hD := Aj (w := w) (.cells #[.int .u8 1, .string t, .int .i64 n] 43) (.cells #[.int .u8 1, .string ⟨#[]⟩, .int .i64 0] 43)
   have esz : (w.alloc (.cells #[.int .u8 1, .string t, .int .i64 n] 43)).heap.size = w.heap.size + 1 := by simp
   rw [esz] at hB
   generalize (w.alloc (.cells #[.int .u8 1, .string t, .int .i64 n] 43)).alloc (.cells #[.int .u8 1, .string ⟨#[]⟩, .int .i64 0] 43) = W at *
   obtain ⟨s0, s1, s2, s3⟩ := Ak hS
   obtain ⟨b0, b1, b2, b3⟩ := Ak hB
   have HS := Lib.hid hS
   have HB := Lib.hid hB
   have HD := Lib.hid hD
   clear hS hB hD esz
   go_quiet (fail)
   go_wp2_with fail
   go_ret2
   exact ⟨rfl, Aa HD.out HD.out.size (Al _ _)⟩
 | true =>
   simp only [Bool.and_self, if_true]
   go_enter Tryz.func20, Tryz.ntmps20
   go_wp2_with fail
   have hS := Af (o := .cells #[.int .u8 1, .string ⟨#[]⟩, .int .i64 0] 43) (Ab w (.cells #[.int .u8 1, .string t, .int .i64 n] 43))
   have hB := Ab (w.alloc (.cells #[.int .u8 1, .string t, .int .i64 n] 43)) (.cells #[.int .u8 1, .string ⟨#[]⟩, .int .i64 0] 43)
   have hD := Aj (w := w) (.cells #[.int .u8 1, .string t, .int .i64 n] 43) (.cells #[.int .u8 1, .string ⟨#[]⟩, .int .i64 0] 43)
   have esz : (w.alloc (.cells #[.int .u8 1, .string t, .int .i64 n] 43)).heap.size = w.heap.size + 1 := by simp
   rw [esz] at hB
   generalize (w.alloc (.cells #[.int .u8 1, .string t, .int .i64 n] 43)).alloc (.cells #[.int .u8 1, .string ⟨#[]⟩, .int .i64 0] 43) = W at *
   obtain ⟨s0, s1, s2, s3⟩ := Ak hS
   obtain ⟨b0, b1, b2, b3⟩ := Ak hB
   have HS := Lib.hid hS
   have HB := Lib.hid hB
   have HD := Lib.hid hD
   clear hS hB hD esz
   go_quiet (fail)
   go_wp2_with fail
   go_ret2
   exact ⟨rfl, Aa HD.out HD.out.size (Al _ _)⟩
set_option maxHeartbeats 1000000 in
set_option maxRecDepth 100000 in
theorem RK (t : ByteArray) (n : Int) (w : World) : Calls Tryz.prog 20 #[.agg #[.int .u8 2, .string t, .int .i64 n]] w fun e w' => e = .returned (if (t.toList == []) && (n == 0) then .tuple #[.int .i64 0, .bool true] else .tuple #[.int .i64 0, .bool false]) ∧ Below w.heap.size w w' := by
 have e0 : (⟨#[]⟩ : ByteArray).toList = [] := by rw [ByteArray.toList_eq]
 cases h1 : (t.toList == []) with
 | false =>
   have h2 : t.toList.isEmpty = false := by
     cases h : t.toList with
     | nil => rw [h] at h1; simp at h1
     | cons a b => rfl
   simp only [Bool.false_and, Bool.false_eq_true, if_false]
   go_enter Tryz.func20, Tryz.ntmps20
   go_wp2_with fail
   have hS := Af (o := .cells #[.int .u8 2, .string ⟨#[]⟩, .int .i64 0] 43) (Ab w (.cells #[.int .u8 2, .string t, .int .i64 n] 43))
   have hB := Ab (w.alloc (.cells #[.int .u8 2, .string t, .int .i64 n] 43)) (.cells #[.int .u8 2, .string ⟨#[]⟩, .int .i64 0] 43)
   have hD := Aj (w := w) (.cells #[.int .u8 2, .string t, .int .i64 n] 43) (.cells #[.int .u8 2, .string ⟨#[]⟩, .int .i64 0] 43)
   have esz : (w.alloc (.cells #[.int .u8 2, .string t, .int .i64 n] 43)).heap.size = w.heap.size + 1 := by simp
   rw [esz] at hB
   generalize (w.alloc (.cells #[.int .u8 2, .string t, .int .i64 n] 43)).alloc (.cells #[.int .u8 2, .string ⟨#[]⟩, .int .i64 0] 43) = W at *
   obtain ⟨s0, s1, s2, s3⟩ := Ak hS
   obtain ⟨b0, b1, b2, b3⟩ := Ak hB
   have HS := Lib.hid hS
   have HB := Lib.hid hB
   have HD := Lib.hid hD
   clear hS hB hD esz
   go_quiet (fail)
   go_wp2_with fail
   go_ret2
   exact ⟨rfl, Aa HD.out HD.out.size (Al _ _)⟩
 | true =>
 have h2 : t.toList.isEmpty = true := by
   cases h : t.toList with
   | nil => rfl
   | cons a b => rw [h] at h1; simp at h1
 cases h3 : (n == 0) with
 | false =>
   simp only [Bool.and_false, Bool.false_eq_true, if_false]
   go_enter Tryz.func20, Tryz.ntmps20
   go_wp2_with fail
   have hS := Af (o := .cells #[.int .u8 2, .string ⟨#[]⟩, .int .i64 0] 43) (Ab w (.cells #[.int .u8 2, .string t, .int .i64 n] 43))
   have hB := Ab (w.alloc (.cells #[.int .u8 2, .string t, .int .i64 n] 43)) (.cells #[.int .u8 2, .string ⟨#[]⟩, .int .i64 0] 43)
   have hD := Aj (w := w) (.cells #[.int .u8 2, .string t, .int .i64 n] 43) (.cells #[.int .u8 2, .string ⟨#[]⟩, .int .i64 0] 43)
   have esz : (w.alloc (.cells #[.int .u8 2, .string t, .int .i64 n] 43)).heap.size = w.heap.size + 1 := by simp
   rw [esz] at hB
   generalize (w.alloc (.cells #[.int .u8 2, .string t, .int .i64 n] 43)).alloc (.cells #[.int .u8 2, .string ⟨#[]⟩, .int .i64 0] 43) = W at *
   obtain ⟨s0, s1, s2, s3⟩ := Ak hS
   obtain ⟨b0, b1, b2, b3⟩ := Ak hB
   have HS := Lib.hid hS
   have HB := Lib.hid hB
   have HD := Lib.hid hD
   clear hS hB hD esz
   go_quiet (fail)
   go_wp2_with fail
   go_ret2
   exact ⟨rfl, Aa HD.out HD.out.size (Al _ _)⟩
 | true =>
   simp only [Bool.and_self, if_true]
   go_enter Tryz.func20, Tryz.ntmps20
   go_wp2_with fail
   have hS := Af (o := .cells #[.int .u8 2, .string ⟨#[]⟩, .int .i64 0] 43) (Ab w (.cells #[.int .u8 2, .string t, .int .i64 n] 43))
   have hB := Ab (w.alloc (.cells #[.int .u8 2, .string t, .int .i64 n] 43)) (.cells #[.int .u8 2, .string ⟨#[]⟩, .int .i64 0] 43)
   have hD := Aj (w := w) (.cells #[.int .u8 2, .string t, .int .i64 n] 43) (.cells #[.int .u8 2, .string ⟨#[]⟩, .int .i64 0] 43)
   have esz : (w.alloc (.cells #[.int .u8 2, .string t, .int .i64 n] 43)).heap.size = w.heap.size + 1 := by simp
   rw [esz] at hB
   generalize (w.alloc (.cells #[.int .u8 2, .string t, .int .i64 n] 43)).alloc (.cells #[.int .u8 2, .string ⟨#[]⟩, .int .i64 0] 43) = W at *
   obtain ⟨s0, s1, s2, s3⟩ := Ak hS
   obtain ⟨b0, b1, b2, b3⟩ := Ak hB
   have HS := Lib.hid hS
   have HB := Lib.hid hB
   have HD := Lib.hid hD
   clear hS hB hD esz
   go_quiet (fail)
   go_wp2_with fail
   go_ret2
   exact ⟨rfl, Aa HD.out HD.out.size (Al _ _)⟩
set_option maxHeartbeats 1000000 in
set_option maxRecDepth 100000 in
theorem RM (t : ByteArray) (n : Int) (w : World) : Calls Tryz.prog 20 #[.agg #[.int .u8 3, .string t, .int .i64 n]] w fun e w' => e = .returned (if (t.toList == []) && (n == 0) then .tuple #[.int .i64 0, .bool true] else .tuple #[.int .i64 0, .bool false]) ∧ Below w.heap.size w w' := by
 have e0 : (⟨#[]⟩ : ByteArray).toList = [] := by rw [ByteArray.toList_eq]
 cases h1 : (t.toList == []) with
 | false =>
   have h2 : t.toList.isEmpty = false := by
     cases h : t.toList with
     | nil => rw [h] at h1; simp at h1
     | cons a b => rfl
   simp only [Bool.false_and, Bool.false_eq_true, if_false]
   go_enter Tryz.func20, Tryz.ntmps20
   go_wp2_with fail
   have hS := Af (o := .cells #[.int .u8 3, .string ⟨#[]⟩, .int .i64 0] 43) (Ab w (.cells #[.int .u8 3, .string t, .int .i64 n] 43))
   have hB := Ab (w.alloc (.cells #[.int .u8 3, .string t, .int .i64 n] 43)) (.cells #[.int .u8 3, .string ⟨#[]⟩, .int .i64 0] 43)
   have hD := Aj (w := w) (.cells #[.int .u8 3, .string t, .int .i64 n] 43) (.cells #[.int .u8 3, .string ⟨#[]⟩, .int .i64 0] 43)
   have esz : (w.alloc (.cells #[.int .u8 3, .string t, .int .i64 n] 43)).heap.size = w.heap.size + 1 := by simp
   rw [esz] at hB
   generalize (w.alloc (.cells #[.int .u8 3, .string t, .int .i64 n] 43)).alloc (.cells #[.int .u8 3, .string ⟨#[]⟩, .int .i64 0] 43) = W at *
   obtain ⟨s0, s1, s2, s3⟩ := Ak hS
   obtain ⟨b0, b1, b2, b3⟩ := Ak hB
   have HS := Lib.hid hS
   have HB := Lib.hid hB
   have HD := Lib.hid hD
   clear hS hB hD esz
   go_quiet (fail)
   go_wp2_with fail
   go_ret2
   exact ⟨rfl, Aa HD.out HD.out.size (Al _ _)⟩
 | true =>
 have h2 : t.toList.isEmpty = true := by
   cases h : t.toList with
   | nil => rfl
   | cons a b => rw [h] at h1; simp at h1
 cases h3 : (n == 0) with
 | false =>
   simp only [Bool.and_false, Bool.false_eq_true, if_false]
   go_enter Tryz.func20, Tryz.ntmps20
   go_wp2_with fail
   have hS := Af (o := .cells #[.int .u8 3, .string ⟨#[]⟩, .int .i64 0] 43) (Ab w (.cells #[.int .u8 3, .string t, .int .i64 n] 43))
   have hB := Ab (w.alloc (.cells #[.int .u8 3, .string t, .int .i64 n] 43)) (.cells #[.int .u8 3, .string ⟨#[]⟩, .int .i64 0] 43)
   have hD := Aj (w := w) (.cells #[.int .u8 3, .string t, .int .i64 n] 43) (.cells #[.int .u8 3, .string ⟨#[]⟩, .int .i64 0] 43)
   have esz : (w.alloc (.cells #[.int .u8 3, .string t, .int .i64 n] 43)).heap.size = w.heap.size + 1 := by simp
   rw [esz] at hB
   generalize (w.alloc (.cells #[.int .u8 3, .string t, .int .i64 n] 43)).alloc (.cells #[.int .u8 3, .string ⟨#[]⟩, .int .i64 0] 43) = W at *
   obtain ⟨s0, s1, s2, s3⟩ := Ak hS
   obtain ⟨b0, b1, b2, b3⟩ := Ak hB
   have HS := Lib.hid hS
   have HB := Lib.hid hB
   have HD := Lib.hid hD
   clear hS hB hD esz
   go_quiet (fail)
   go_wp2_with fail
   go_ret2
   exact ⟨rfl, Aa HD.out HD.out.size (Al _ _)⟩
 | true =>
   simp only [Bool.and_self, if_true]
   go_enter Tryz.func20, Tryz.ntmps20
   go_wp2_with fail
   have hS := Af (o := .cells #[.int .u8 3, .string ⟨#[]⟩, .int .i64 0] 43) (Ab w (.cells #[.int .u8 3, .string t, .int .i64 n] 43))
   have hB := Ab (w.alloc (.cells #[.int .u8 3, .string t, .int .i64 n] 43)) (.cells #[.int .u8 3, .string ⟨#[]⟩, .int .i64 0] 43)
   have hD := Aj (w := w) (.cells #[.int .u8 3, .string t, .int .i64 n] 43) (.cells #[.int .u8 3, .string ⟨#[]⟩, .int .i64 0] 43)
   have esz : (w.alloc (.cells #[.int .u8 3, .string t, .int .i64 n] 43)).heap.size = w.heap.size + 1 := by simp
   rw [esz] at hB
   generalize (w.alloc (.cells #[.int .u8 3, .string t, .int .i64 n] 43)).alloc (.cells #[.int .u8 3, .string ⟨#[]⟩, .int .i64 0] 43) = W at *
   obtain ⟨s0, s1, s2, s3⟩ := Ak hS
   obtain ⟨b0, b1, b2, b3⟩ := Ak hB
   have HS := Lib.hid hS
   have HB := Lib.hid hB
   have HD := Lib.hid hD
   clear hS hB hD esz
   go_quiet (fail)
   go_wp2_with fail
   go_ret2
   exact ⟨rfl, Aa HD.out HD.out.size (Al _ _)⟩
set_option maxHeartbeats 1000000 in
set_option maxRecDepth 100000 in
theorem RN (t : ByteArray) (n : Int) (w : World) : Calls Tryz.prog 20 #[.agg #[.int .u8 9, .string t, .int .i64 n]] w fun e w' => e = .returned (if (t.toList == []) && (n == 0) then .tuple #[.int .i64 1, .bool true] else .tuple #[.int .i64 0, .bool false]) ∧ Below w.heap.size w w' := by
 have e0 : (⟨#[]⟩ : ByteArray).toList = [] := by rw [ByteArray.toList_eq]
 cases h1 : (t.toList == []) with
 | false =>
   have h2 : t.toList.isEmpty = false := by
     cases h : t.toList with
     | nil => rw [h] at h1; simp at h1
     | cons a b => rfl
   simp only [Bool.false_and, Bool.false_eq_true, if_false]
   go_enter Tryz.func20, Tryz.ntmps20
   go_wp2_with fail
   have hS := Af (o := .cells #[.int .u8 9, .string ⟨#[]⟩, .int .i64 0] 43) (Ab w (.cells #[.int .u8 9, .string t, .int .i64 n] 43))
   have hB := Ab (w.alloc (.cells #[.int .u8 9, .string t, .int .i64 n] 43)) (.cells #[.int .u8 9, .string ⟨#[]⟩, .int .i64 0] 43)
   have hD := Aj (w := w) (.cells #[.int .u8 9, .string t, .int .i64 n] 43) (.cells #[.int .u8 9, .string ⟨#[]⟩, .int .i64 0] 43)
   have esz : (w.alloc (.cells #[.int .u8 9, .string t, .int .i64 n] 43)).heap.size = w.heap.size + 1 := by simp
   rw [esz] at hB
   generalize (w.alloc (.cells #[.int .u8 9, .string t, .int .i64 n] 43)).alloc (.cells #[.int .u8 9, .string ⟨#[]⟩, .int .i64 0] 43) = W at *
   obtain ⟨s0, s1, s2, s3⟩ := Ak hS
   obtain ⟨b0, b1, b2, b3⟩ := Ak hB
   have HS := Lib.hid hS
   have HB := Lib.hid hB
   have HD := Lib.hid hD
   clear hS hB hD esz
   go_quiet (fail)
   go_wp2_with fail
   go_ret2
   exact ⟨rfl, Aa HD.out HD.out.size (Al _ _)⟩
 | true =>
 have h2 : t.toList.isEmpty = true := by
   cases h : t.toList with
   | nil => rfl
   | cons a b => rw [h] at h1; simp at h1
 cases h3 : (n == 0) with
 | false =>
   simp only [Bool.and_false, Bool.false_eq_true, if_false]
   go_enter Tryz.func20, Tryz.ntmps20
   go_wp2_with fail
   have hS := Af (o := .cells #[.int .u8 9, .string ⟨#[]⟩, .int .i64 0] 43) (Ab w (.cells #[.int .u8 9, .string t, .int .i64 n] 43))
   have hB := Ab (w.alloc (.cells #[.int .u8 9, .string t, .int .i64 n] 43)) (.cells #[.int .u8 9, .string ⟨#[]⟩, .int .i64 0] 43)
   have hD := Aj (w := w) (.cells #[.int .u8 9, .string t, .int .i64 n] 43) (.cells #[.int .u8 9, .string ⟨#[]⟩, .int .i64 0] 43)
   have esz : (w.alloc (.cells #[.int .u8 9, .string t, .int .i64 n] 43)).heap.size = w.heap.size + 1 := by simp
   rw [esz] at hB
   generalize (w.alloc (.cells #[.int .u8 9, .string t, .int .i64 n] 43)).alloc (.cells #[.int .u8 9, .string ⟨#[]⟩, .int .i64 0] 43) = W at *
   obtain ⟨s0, s1, s2, s3⟩ := Ak hS
   obtain ⟨b0, b1, b2, b3⟩ := Ak hB
   have HS := Lib.hid hS
   have HB := Lib.hid hB
   have HD := Lib.hid hD
   clear hS hB hD esz
   go_quiet (fail)
   go_wp2_with fail
   go_ret2
   exact ⟨rfl, Aa HD.out HD.out.size (Al _ _)⟩
 | true =>
   simp only [Bool.and_self, if_true]
   go_enter Tryz.func20, Tryz.ntmps20
   go_wp2_with fail
   have hS := Af (o := .cells #[.int .u8 9, .string ⟨#[]⟩, .int .i64 0] 43) (Ab w (.cells #[.int .u8 9, .string t, .int .i64 n] 43))
   have hB := Ab (w.alloc (.cells #[.int .u8 9, .string t, .int .i64 n] 43)) (.cells #[.int .u8 9, .string ⟨#[]⟩, .int .i64 0] 43)
   have hD := Aj (w := w) (.cells #[.int .u8 9, .string t, .int .i64 n] 43) (.cells #[.int .u8 9, .string ⟨#[]⟩, .int .i64 0] 43)
   have esz : (w.alloc (.cells #[.int .u8 9, .string t, .int .i64 n] 43)).heap.size = w.heap.size + 1 := by simp
   rw [esz] at hB
   generalize (w.alloc (.cells #[.int .u8 9, .string t, .int .i64 n] 43)).alloc (.cells #[.int .u8 9, .string ⟨#[]⟩, .int .i64 0] 43) = W at *
   obtain ⟨s0, s1, s2, s3⟩ := Ak hS
   obtain ⟨b0, b1, b2, b3⟩ := Ak hB
   have HS := Lib.hid hS
   have HB := Lib.hid hB
   have HD := Lib.hid hD
   clear hS hB hD esz
   go_quiet (fail)
   go_wp2_with fail
   go_ret2
   exact ⟨rfl, Aa HD.out HD.out.size (Al _ _)⟩
set_option maxHeartbeats 1000000 in
set_option maxRecDepth 100000 in
theorem Qs (t : ByteArray) (n : Int) (w : World) : Calls Tryz.prog 20 #[.agg #[.int .u8 10, .string t, .int .i64 n]] w fun e w' => e = .returned (if (t.toList == []) && (n == 0) then .tuple #[.int .i64 1, .bool true] else .tuple #[.int .i64 0, .bool false]) ∧ Below w.heap.size w w' := by
 have e0 : (⟨#[]⟩ : ByteArray).toList = [] := by rw [ByteArray.toList_eq]
 cases h1 : (t.toList == []) with
 | false =>
   have h2 : t.toList.isEmpty = false := by
     cases h : t.toList with
     | nil => rw [h] at h1; simp at h1
     | cons a b => rfl
   simp only [Bool.false_and, Bool.false_eq_true, if_false]
   go_enter Tryz.func20, Tryz.ntmps20
   go_wp2_with fail
   have hS := Af (o := .cells #[.int .u8 10, .string ⟨#[]⟩, .int .i64 0] 43) (Ab w (.cells #[.int .u8 10, .string t, .int .i64 n] 43))
   have hB := Ab (w.alloc (.cells #[.int .u8 10, .string t, .int .i64 n] 43)) (.cells #[.int .u8 10, .string ⟨#[]⟩, .int .i64 0] 43)
   have hD := Aj (w := w) (.cells #[.int .u8 10, .string t, .int .i64 n] 43) (.cells #[.int .u8 10, .string ⟨#[]⟩, .int .i64 0] 43)
   have esz : (w.alloc (.cells #[.int .u8 10, .string t, .int .i64 n] 43)).heap.size = w.heap.size + 1 := by simp
   rw [esz] at hB
   generalize (w.alloc (.cells #[.int .u8 10, .string t, .int .i64 n] 43)).alloc (.cells #[.int .u8 10, .string ⟨#[]⟩, .int .i64 0] 43) = W at *
   obtain ⟨s0, s1, s2, s3⟩ := Ak hS
   obtain ⟨b0, b1, b2, b3⟩ := Ak hB
   have HS := Lib.hid hS
   have HB := Lib.hid hB
   have HD := Lib.hid hD
   clear hS hB hD esz
   go_quiet (fail)
   go_wp2_with fail
   go_ret2
   exact ⟨rfl, Aa HD.out HD.out.size (Al _ _)⟩
 | true =>
 have h2 : t.toList.isEmpty = true := by
   cases h : t.toList with
   | nil => rfl
   | cons a b => rw [h] at h1; simp at h1
 cases h3 : (n == 0) with
 | false =>
   simp only [Bool.and_false, Bool.false_eq_true, if_false]
   go_enter Tryz.func20, Tryz.ntmps20
   go_wp2_with fail
   have hS := Af (o := .cells #[.int .u8 10, .string ⟨#[]⟩, .int .i64 0] 43) (Ab w (.cells #[.int .u8 10, .string t, .int .i64 n] 43))
   have hB := Ab (w.alloc (.cells #[.int .u8 10, .string t, .int .i64 n] 43)) (.cells #[.int .u8 10, .string ⟨#[]⟩, .int .i64 0] 43)
   have hD := Aj (w := w) (.cells #[.int .u8 10, .string t, .int .i64 n] 43) (.cells #[.int .u8 10, .string ⟨#[]⟩, .int .i64 0] 43)
   have esz : (w.alloc (.cells #[.int .u8 10, .string t, .int .i64 n] 43)).heap.size = w.heap.size + 1 := by simp
   rw [esz] at hB
   generalize (w.alloc (.cells #[.int .u8 10, .string t, .int .i64 n] 43)).alloc (.cells #[.int .u8 10, .string ⟨#[]⟩, .int .i64 0] 43) = W at *
   obtain ⟨s0, s1, s2, s3⟩ := Ak hS
   obtain ⟨b0, b1, b2, b3⟩ := Ak hB
   have HS := Lib.hid hS
   have HB := Lib.hid hB
   have HD := Lib.hid hD
   clear hS hB hD esz
   go_quiet (fail)
   go_wp2_with fail
   go_ret2
   exact ⟨rfl, Aa HD.out HD.out.size (Al _ _)⟩
 | true =>
   simp only [Bool.and_self, if_true]
   go_enter Tryz.func20, Tryz.ntmps20
   go_wp2_with fail
   have hS := Af (o := .cells #[.int .u8 10, .string ⟨#[]⟩, .int .i64 0] 43) (Ab w (.cells #[.int .u8 10, .string t, .int .i64 n] 43))
   have hB := Ab (w.alloc (.cells #[.int .u8 10, .string t, .int .i64 n] 43)) (.cells #[.int .u8 10, .string ⟨#[]⟩, .int .i64 0] 43)
   have hD := Aj (w := w) (.cells #[.int .u8 10, .string t, .int .i64 n] 43) (.cells #[.int .u8 10, .string ⟨#[]⟩, .int .i64 0] 43)
   have esz : (w.alloc (.cells #[.int .u8 10, .string t, .int .i64 n] 43)).heap.size = w.heap.size + 1 := by simp
   rw [esz] at hB
   generalize (w.alloc (.cells #[.int .u8 10, .string t, .int .i64 n] 43)).alloc (.cells #[.int .u8 10, .string ⟨#[]⟩, .int .i64 0] 43) = W at *
   obtain ⟨s0, s1, s2, s3⟩ := Ak hS
   obtain ⟨b0, b1, b2, b3⟩ := Ak hB
   have HS := Lib.hid hS
   have HB := Lib.hid hB
   have HD := Lib.hid hD
   clear hS hB hD esz
   go_quiet (fail)
   go_wp2_with fail
   go_ret2
   exact ⟨rfl, Aa HD.out HD.out.size (Al _ _)⟩
set_option maxHeartbeats 1000000 in
set_option maxRecDepth 100000 in
theorem Qt (t : ByteArray) (n : Int) (w : World) : Calls Tryz.prog 20 #[.agg #[.int .u8 11, .string t, .int .i64 n]] w fun e w' => e = .returned (if (t.toList == []) && (n == 0) then .tuple #[.int .i64 1, .bool true] else .tuple #[.int .i64 0, .bool false]) ∧ Below w.heap.size w w' := by
 have e0 : (⟨#[]⟩ : ByteArray).toList = [] := by rw [ByteArray.toList_eq]
 cases h1 : (t.toList == []) with
 | false =>
   have h2 : t.toList.isEmpty = false := by
     cases h : t.toList with
     | nil => rw [h] at h1; simp at h1
     | cons a b => rfl
   simp only [Bool.false_and, Bool.false_eq_true, if_false]
   go_enter Tryz.func20, Tryz.ntmps20
   go_wp2_with fail
   have hS := Af (o := .cells #[.int .u8 11, .string ⟨#[]⟩, .int .i64 0] 43) (Ab w (.cells #[.int .u8 11, .string t, .int .i64 n] 43))
   have hB := Ab (w.alloc (.cells #[.int .u8 11, .string t, .int .i64 n] 43)) (.cells #[.int .u8 11, .string ⟨#[]⟩, .int .i64 0] 43)
   have hD := Aj (w := w) (.cells #[.int .u8 11, .string t, .int .i64 n] 43) (.cells #[.int .u8 11, .string ⟨#[]⟩, .int .i64 0] 43)
   have esz : (w.alloc (.cells #[.int .u8 11, .string t, .int .i64 n] 43)).heap.size = w.heap.size + 1 := by simp
   rw [esz] at hB
   generalize (w.alloc (.cells #[.int .u8 11, .string t, .int .i64 n] 43)).alloc (.cells #[.int .u8 11, .string ⟨#[]⟩, .int .i64 0] 43) = W at *
   obtain ⟨s0, s1, s2, s3⟩ := Ak hS
   obtain ⟨b0, b1, b2, b3⟩ := Ak hB
   have HS := Lib.hid hS
   have HB := Lib.hid hB
   have HD := Lib.hid hD
   clear hS hB hD esz
   go_quiet (fail)
   go_wp2_with fail
   go_ret2
   exact ⟨rfl, Aa HD.out HD.out.size (Al _ _)⟩
 | true =>
 have h2 : t.toList.isEmpty = true := by
   cases h : t.toList with
   | nil => rfl
   | cons a b => rw [h] at h1; simp at h1
 cases h3 : (n == 0) with
 | false =>
   simp only [Bool.and_false, Bool.false_eq_true, if_false]
   go_enter Tryz.func20, Tryz.ntmps20
   go_wp2_with fail
   have hS := Af (o := .cells #[.int .u8 11, .string ⟨#[]⟩, .int .i64 0] 43) (Ab w (.cells #[.int .u8 11, .string t, .int .i64 n] 43))
   have hB := Ab (w.alloc (.cells #[.int .u8 11, .string t, .int .i64 n] 43)) (.cells #[.int .u8 11, .string ⟨#[]⟩, .int .i64 0] 43)
   have hD := Aj (w := w) (.cells #[.int .u8 11, .string t, .int .i64 n] 43) (.cells #[.int .u8 11, .string ⟨#[]⟩, .int .i64 0] 43)
   have esz : (w.alloc (.cells #[.int .u8 11, .string t, .int .i64 n] 43)).heap.size = w.heap.size + 1 := by simp
   rw [esz] at hB
   generalize (w.alloc (.cells #[.int .u8 11, .string t, .int .i64 n] 43)).alloc (.cells #[.int .u8 11, .string ⟨#[]⟩, .int .i64 0] 43) = W at *
   obtain ⟨s0, s1, s2, s3⟩ := Ak hS
   obtain ⟨b0, b1, b2, b3⟩ := Ak hB
   have HS := Lib.hid hS
   have HB := Lib.hid hB
   have HD := Lib.hid hD
   clear hS hB hD esz
   go_quiet (fail)
   go_wp2_with fail
   go_ret2
   exact ⟨rfl, Aa HD.out HD.out.size (Al _ _)⟩
 | true =>
   simp only [Bool.and_self, if_true]
   go_enter Tryz.func20, Tryz.ntmps20
   go_wp2_with fail
   have hS := Af (o := .cells #[.int .u8 11, .string ⟨#[]⟩, .int .i64 0] 43) (Ab w (.cells #[.int .u8 11, .string t, .int .i64 n] 43))
   have hB := Ab (w.alloc (.cells #[.int .u8 11, .string t, .int .i64 n] 43)) (.cells #[.int .u8 11, .string ⟨#[]⟩, .int .i64 0] 43)
   have hD := Aj (w := w) (.cells #[.int .u8 11, .string t, .int .i64 n] 43) (.cells #[.int .u8 11, .string ⟨#[]⟩, .int .i64 0] 43)
   have esz : (w.alloc (.cells #[.int .u8 11, .string t, .int .i64 n] 43)).heap.size = w.heap.size + 1 := by simp
   rw [esz] at hB
   generalize (w.alloc (.cells #[.int .u8 11, .string t, .int .i64 n] 43)).alloc (.cells #[.int .u8 11, .string ⟨#[]⟩, .int .i64 0] 43) = W at *
   obtain ⟨s0, s1, s2, s3⟩ := Ak hS
   obtain ⟨b0, b1, b2, b3⟩ := Ak hB
   have HS := Lib.hid hS
   have HB := Lib.hid hB
   have HD := Lib.hid hD
   clear hS hB hD esz
   go_quiet (fail)
   go_wp2_with fail
   go_ret2
   exact ⟨rfl, Aa HD.out HD.out.size (Al _ _)⟩
set_option maxHeartbeats 1000000 in
set_option maxRecDepth 100000 in
theorem Qu (k : Int) (e0 : (k == 0) = false) (e1 : (k == 1) = false) (e2 : (k == 2) = false) (e3 : (k == 3) = false) (e4 : (k == 4) = false) (e5 : (k == 5) = false) (e6 : (k == 6) = false) (e7 : (k == 7) = false) (e8 : (k == 8) = false) (e9 : (k == 9) = false) (e10 : (k == 10) = false) (e11 : (k == 11) = false) (hk : k < 23) (t : ByteArray) (n : Int) (w : World) : Calls Tryz.prog 20 #[.agg #[.int .u8 k, .string t, .int .i64 n]] w fun e w' => e = .returned (if (t.toList == []) && (n == 0) then .tuple #[.int .i64 2, .bool true] else .tuple #[.int .i64 0, .bool false]) ∧ Below w.heap.size w w' := by
 have e0 : (⟨#[]⟩ : ByteArray).toList = [] := by rw [ByteArray.toList_eq]
 cases h1 : (t.toList == []) with
 | false =>
   have h2 : t.toList.isEmpty = false := by
     cases h : t.toList with
     | nil => rw [h] at h1; simp at h1
     | cons a b => rfl
   simp only [Bool.false_and, Bool.false_eq_true, if_false]
   go_enter Tryz.func20, Tryz.ntmps20
   go_wp2_with fail
   have hS := Af (o := .cells #[.int .u8 k, .string ⟨#[]⟩, .int .i64 0] 43) (Ab w (.cells #[.int .u8 k, .string t, .int .i64 n] 43))
   have hB := Ab (w.alloc (.cells #[.int .u8 k, .string t, .int .i64 n] 43)) (.cells #[.int .u8 k, .string ⟨#[]⟩, .int .i64 0] 43)
   have hD := Aj (w := w) (.cells #[.int .u8 k, .string t, .int .i64 n] 43) (.cells #[.int .u8 k, .string ⟨#[]⟩, .int .i64 0] 43)
   have esz : (w.alloc (.cells #[.int .u8 k, .string t, .int .i64 n] 43)).heap.size = w.heap.size + 1 := by simp
   rw [esz] at hB
   generalize (w.alloc (.cells #[.int .u8 k, .string t, .int .i64 n] 43)).alloc (.cells #[.int .u8 k, .string ⟨#[]⟩, .int .i64 0] 43) = W at *
   obtain ⟨s0, s1, s2, s3⟩ := Ak hS
   obtain ⟨b0, b1, b2, b3⟩ := Ak hB
   have HS := Lib.hid hS
   have HB := Lib.hid hB
   have HD := Lib.hid hD
   clear hS hB hD esz
   go_quiet (fail)
   go_wp2_with fail
   go_ret2
   exact ⟨rfl, Aa HD.out HD.out.size (Al _ _)⟩
 | true =>
 have h2 : t.toList.isEmpty = true := by
   cases h : t.toList with
   | nil => rfl
   | cons a b => rw [h] at h1; simp at h1
 cases h3 : (n == 0) with
 | false =>
   simp only [Bool.and_false, Bool.false_eq_true, if_false]
   go_enter Tryz.func20, Tryz.ntmps20
   go_wp2_with fail
   have hS := Af (o := .cells #[.int .u8 k, .string ⟨#[]⟩, .int .i64 0] 43) (Ab w (.cells #[.int .u8 k, .string t, .int .i64 n] 43))
   have hB := Ab (w.alloc (.cells #[.int .u8 k, .string t, .int .i64 n] 43)) (.cells #[.int .u8 k, .string ⟨#[]⟩, .int .i64 0] 43)
   have hD := Aj (w := w) (.cells #[.int .u8 k, .string t, .int .i64 n] 43) (.cells #[.int .u8 k, .string ⟨#[]⟩, .int .i64 0] 43)
   have esz : (w.alloc (.cells #[.int .u8 k, .string t, .int .i64 n] 43)).heap.size = w.heap.size + 1 := by simp
   rw [esz] at hB
   generalize (w.alloc (.cells #[.int .u8 k, .string t, .int .i64 n] 43)).alloc (.cells #[.int .u8 k, .string ⟨#[]⟩, .int .i64 0] 43) = W at *
   obtain ⟨s0, s1, s2, s3⟩ := Ak hS
   obtain ⟨b0, b1, b2, b3⟩ := Ak hB
   have HS := Lib.hid hS
   have HB := Lib.hid hB
   have HD := Lib.hid hD
   clear hS hB hD esz
   go_quiet (fail)
   go_wp2_with fail
   go_ret2
   exact ⟨rfl, Aa HD.out HD.out.size (Al _ _)⟩
 | true =>
   simp only [Bool.and_self, if_true]
   go_enter Tryz.func20, Tryz.ntmps20
   go_wp2_with fail
   have hS := Af (o := .cells #[.int .u8 k, .string ⟨#[]⟩, .int .i64 0] 43) (Ab w (.cells #[.int .u8 k, .string t, .int .i64 n] 43))
   have hB := Ab (w.alloc (.cells #[.int .u8 k, .string t, .int .i64 n] 43)) (.cells #[.int .u8 k, .string ⟨#[]⟩, .int .i64 0] 43)
   have hD := Aj (w := w) (.cells #[.int .u8 k, .string t, .int .i64 n] 43) (.cells #[.int .u8 k, .string ⟨#[]⟩, .int .i64 0] 43)
   have esz : (w.alloc (.cells #[.int .u8 k, .string t, .int .i64 n] 43)).heap.size = w.heap.size + 1 := by simp
   rw [esz] at hB
   generalize (w.alloc (.cells #[.int .u8 k, .string t, .int .i64 n] 43)).alloc (.cells #[.int .u8 k, .string ⟨#[]⟩, .int .i64 0] 43) = W at *
   obtain ⟨s0, s1, s2, s3⟩ := Ak hS
   obtain ⟨b0, b1, b2, b3⟩ := Ak hB
   have HS := Lib.hid hS
   have HB := Lib.hid hB
   have HD := Lib.hid hD
   clear hS hB hD esz
   go_quiet (fail)
   go_wp2_with fail
   go_ret2
   exact ⟨rfl, Aa HD.out HD.out.size (Al _ _)⟩
set_option maxHeartbeats 1000000 in
set_option maxRecDepth 100000 in
theorem ON (k : Int) (e0 : (k == 0) = false) (e1 : (k == 1) = false) (e2 : (k == 2) = false) (e3 : (k == 3) = false) (e4 : (k == 4) = false) (e5 : (k == 5) = false) (e6 : (k == 6) = false) (e7 : (k == 7) = false) (e8 : (k == 8) = false) (e9 : (k == 9) = false) (e10 : (k == 10) = false) (e11 : (k == 11) = false) (hk : ¬ k < 23) (t : ByteArray) (n : Int) (w : World) : Calls Tryz.prog 20 #[.agg #[.int .u8 k, .string t, .int .i64 n]] w fun e w' => e = .returned (.tuple #[.int .i64 0, .bool false]) ∧ Below w.heap.size w w' := by
 go_enter Tryz.func20, Tryz.ntmps20
 go_wp2_with fail
 have hS := Af (o := .cells #[.int .u8 k, .string ⟨#[]⟩, .int .i64 0] 43) (Ab w (.cells #[.int .u8 k, .string t, .int .i64 n] 43))
 have hB := Ab (w.alloc (.cells #[.int .u8 k, .string t, .int .i64 n] 43)) (.cells #[.int .u8 k, .string ⟨#[]⟩, .int .i64 0] 43)
 have hD := Aj (w := w) (.cells #[.int .u8 k, .string t, .int .i64 n] 43) (.cells #[.int .u8 k, .string ⟨#[]⟩, .int .i64 0] 43)
 have esz : (w.alloc (.cells #[.int .u8 k, .string t, .int .i64 n] 43)).heap.size = w.heap.size + 1 := by simp
 rw [esz] at hB
 generalize (w.alloc (.cells #[.int .u8 k, .string t, .int .i64 n] 43)).alloc (.cells #[.int .u8 k, .string ⟨#[]⟩, .int .i64 0] 43) = W at *
 obtain ⟨s0, s1, s2, s3⟩ := Ak hS
 obtain ⟨b0, b1, b2, b3⟩ := Ak hB
 have HS := Lib.hid hS
 have HB := Lib.hid hB
 have HD := Lib.hid hD
 clear hS hB hD esz
 go_quiet (fail)
 go_wp2_with fail
 go_ret2
 exact ⟨rfl, Aa HD.out HD.out.size (Al _ _)⟩
end Go.Proofs.YtbemgcjckchdjaaGreatDoor
