import Derived.Test.YtbemgcjckchdjaaGreatDoorLCe
import Derived.Test.YtbemgcjckchdjaaGreatDoorLEk
/- (*code.checker).step in one; code.Check. -/
namespace Go.Proofs.YtbemgcjckchdjaaGreatDoor
open Go.RowKit
set_option linter.unusedSimpArgs false
set_option linter.unusedVariables false
def HOk (h : HT) (b : Int) : Prop := ∀ k v, h k = some v → 0 ≤ v ∧ v ≤ b
theorem HOk.upd {h : HT} {b b' a v : Int} (hk : HOk h b) (hb : b ≤ b') (h0 : 0 ≤ v) (h1 : v ≤ b') : HOk (BR h a v) b' := by
 intro k u hu
 unfold BR at hu
 split at hu
 · cases hu; exact ⟨h0, h1⟩
 · have := hk k u hu; omega
theorem Qn {n i : Nat} {x : IT} {h h' : HT} {b : Int} (hs : AE n x i h = some h') (hk : HOk h b) (hr : 0 ≤ x.s.takes ∨ x.s.ok = false) : HOk h' (b + 1) := by
 unfold AE at hs
 cases hh : h i with
 | none => rw [hh] at hs; cases hs
 | some ht =>
   rw [hh] at hs
   have hb := hk _ _ hh
   simp only at hs
   split at hs
   · split at hs
     · rename_i hc
       cases hs
       simp only [Bool.and_eq_true, decide_eq_true_eq] at hc
       have ht0 : 0 ≤ x.s.takes := by
         rcases hr with h | h
         · exact h
         · rw [hc.1.1.1.1] at h; cases h
       exact hk.upd (by omega) (by omega) (by omega)
     · cases hs
   · split at hs
     · obtain ⟨q, hq⟩ : ∃ q, (if x.op = 2 then ht - 1 else ht) = q := ⟨_, rfl⟩
       have hq2 : q ≤ ht ∧ ht - 1 ≤ q := by rw [← hq]; split <;> omega
       simp only [hq] at hs
       split at hs
       · rename_i hc
         cases hs
         simp only [Bool.and_eq_true, decide_eq_true_eq] at hc
         exact HOk.upd (b := b) (hk.upd (Int.le_refl _) hb.1 hb.2) (by omega) (by omega) (by omega)
       · cases hs
     · split at hs
       · split at hs
         · rename_i hc
           cases hs
           exact hk.upd (by omega) (by omega) (by omega)
         · cases hs
       · split at hs
         · split at hs
           · rename_i hc
             cases hs
             simp only [Bool.and_eq_true, decide_eq_true_eq] at hc
             exact hk.upd (by omega) (by omega) (by omega)
           · cases hs
         · cases hs
theorem Pl (B : Nat) (p : List IT) (P gm : Nat) (A : Option Addr) (c : Nat) (h : HT) (i : Nat) (hi : i < p.length) (hlen : p.length ≤ 256) (hst : Be p[i].s) (hb : HOk h 100000) (w : World) (hL : Laid w) (hw : CkAt B p P gm A c h w) :
   Calls Tryz.prog 35 #[.pointer (some ⟨P, 0, none⟩), .int .i64 i] w (Eh B p P gm A c (AE p.length p[i] i h) w) := by
 obtain ⟨⟨o, ⟨k, t, n⟩, tg⟩, hx⟩ : ∃ x, p[i] = x := ⟨_, rfl⟩
 rw [hx] at hst ⊢
 have hsz : t.size ≤ LIM := hst.2.1
 cases hh : h i with
 | none =>
   have e : AE p.length ⟨o, ⟨k, t, n⟩, tg⟩ i h = none := by unfold AE; rw [hh]
   rw [e]
   exact QV B p P gm A c h i hi hlen o k t n tg hx hh w hL hw
 | some ht =>
   obtain ⟨ht0, ht1⟩ := hb _ _ hh
   by_cases h1 : o = 1
   · subst h1
     exact Tc B p P gm A c h i hi hlen ht k t n tg hx hh ht0 ht1 hsz w hL hw
   by_cases h24 : o = 2 ∨ o = 4
   · exact SJ B p P gm A c h i hi hlen ht o h24 k t n tg hx hh ht0 ht1 hsz w hL hw
   by_cases h3 : o = 3
   · exact QE B p P gm A c h i hi hlen ht o 1 ht (Or.inl ⟨h3, rfl, rfl⟩) k t n tg hx hh ht0 ht1 hsz w hL hw
   by_cases h5 : o = 5
   · exact QE B p P gm A c h i hi hlen ht o 2 (ht - 1) (Or.inr ⟨h5, rfl, rfl⟩) k t n tg hx hh ht0 ht1 hsz w hL hw
   have e : AE p.length ⟨o, ⟨k, t, n⟩, tg⟩ i h = none := by
     unfold AE
     rw [hh]
     dsimp only
     rw [if_neg h1, if_neg h24, if_neg h3, if_neg h5]
   rw [e]
   exact Pm B p P gm A c h i hi hlen o ht k t n tg hx hh (by simpa using h1) (by simp; omega) (by simpa using h3) (by simp; omega) (by simpa using h5) w hL hw
theorem SM {w : World} {m c : Nat} (h : w.heap[m]? = some (.map #[{ key := .int .i64 0, val := .int .i64 0, born := 0 }] c)) : MapH w m H0 := by
 refine ⟨[(0, 0, 0)], c, h, fun k => ?_⟩
 show (if k = 0 then some 0 else none) = (if k = 0 then some 0 else none)
 rfl
theorem Qc (w : World) : (Instr.mapUpdate 85 (.map (some w.heap.size)) (.int .i64 0) (.int .i64 0)).run Tryz.prog (w.alloc (.map #[] 0)) = .ok () (w.alloc (.map #[{ key := .int .i64 0, val := .int .i64 0, born := 0 }] 1)) := by
 have hf : (Instr.findKey 3 (.int .i64 0) []).run Tryz.prog (w.alloc (.map #[] 0)) = .ok none (w.alloc (.map #[] 0)) := MapKept.run_findKey Tryz.underI rfl
 have hck := fun e => MapKept.run_checkKey (P := Tryz.prog) (w := w.alloc (.map #[] 0)) (kt := 3) (k := .int .i64 0) Tryz.underI rfl e 9999
 simp [Instr.mapUpdate, run_underlying Tryz.underMI, MapKept.run_getObj_map (Ab w _), hck, hf, MapKept.run_setObj_map _ (Ab w _), Result.andThen]
 exact Ic w _ _
def Sm (n : Nat) : Option HT → Int
 | none => 11
 | some h => if h n = some 1 then 0 else 11
def QC (B : Nat) (p : List IT) (P gm : Nat) (A : Option Addr) (c : Nat) (w : World) (R : Option HT) (ob : Bool) (i : Nat) (wr : World) : Prop :=
 Below B w wr ∧ ((ob = true ∧ ∃ h, goK p.length (p.drop i) i h = R ∧ CkAt B p P gm A c h wr ∧ HOk h (i + 1)) ∨ (ob = false ∧ R = none))
def Ey (p : List IT) (w : World) (e : Ending) (w' : World) : Prop := e = .returned (.int .i64 (AL p)) ∧ Below w.heap.size w w'
set_option maxHeartbeats 4000000 in
set_option maxRecDepth 100000 in
theorem Bv (p : List IT) (A : Option Addr) (c : Nat) (w : World) (hlen : p.length ≤ LIM) (hst : ∀ x ∈ p, Be x.s) (hL : Laid w) (hr : RowI w p A) :
   Calls Tryz.prog 16 #[.slice A p.length c] w (Ey p w) := by
 have hmm := @run_makeMap Tryz.prog
 have hins := Qc w
 have hm0 := Ab w (.map #[{ key := .int .i64 0, val := .int .i64 0, born := 0 }] 1)
 have hb0 := Ad (w := w) (.map #[{ key := .int .i64 0, val := .int .i64 0, born := 0 }] 1)
 have hs0 : (w.alloc (.map #[{ key := .int .i64 0, val := .int .i64 0, born := 0 }] 1)).heap.size = w.heap.size + 1 := by simp
 by_cases h00 : p.length = 0
 · have hp := List.length_eq_zero_iff.1 h00
   subst hp
   have hpk : AL [] = 11 := rfl
   have HP := Lib.hid hpk
   have HB := Lib.hid (Aa hb0 hb0.size (Ad (w := w.alloc (.map #[{ key := .int .i64 0, val := .int .i64 0, born := 0 }] 1)) (.cells #[.slice A 0 c, .map (some w.heap.size)] 87)))
   clear hm0 hs0 hr hst hpk hL hb0 h00 hlen
   go_enter Tryz.func16, Tryz.ntmps16
   go_wp2_with fail
   go_loopw [4, 5] (fun s4 s5 wr => s4 = .bool false ∧ s5 = .int .i64 0 ∧ Below w.heap.size w wr) (fun _ _ _ => 0)
   case atStart => exact ⟨rfl, rfl, HB.out⟩
   case round =>
     obtain ⟨rfl, rfl, hb⟩ := hrel
     have HBR := Lib.hid hb
     clear hb HB hins hmm
     go_wp2_with fail
     go_ret
     exact ⟨by rw [HP.out]; rfl, HBR.out⟩
 by_cases hbig : 256 < p.length
 · have hp : AL p = 11 := by unfold AL; rw [if_neg (by omega)]
   have HP := Lib.hid hp
   have HB := Lib.hid (Aa hb0 hb0.size (Ad (w := w.alloc (.map #[{ key := .int .i64 0, val := .int .i64 0, born := 0 }] 1)) (.cells #[.slice A p.length c, .map (some w.heap.size)] 87)))
   have d2 : decide ((p.length : Int) ≤ 256) = false := decide_eq_false (by omega)
   clear hm0 hs0 hr hst hp hL hb0 h00
   unfold LIM at hlen
   go_enter Tryz.func16, Tryz.ntmps16
   go_wp2_with fail
   go_loopw [4, 5] (fun s4 s5 wr => s4 = .bool false ∧ s5 = .int .i64 0 ∧ Below w.heap.size w wr) (fun _ _ _ => 0)
   case atStart => exact ⟨rfl, rfl, HB.out⟩
   case round =>
     obtain ⟨rfl, rfl, hb⟩ := hrel
     have HBR := Lib.hid hb
     clear hb HB hins hmm
     go_wp2_with fail
     go_ret
     exact ⟨by rw [HP.out]; rfl, HBR.out⟩
 have hp1 : 1 ≤ p.length := by omega
 have hp2 : p.length ≤ 256 := by omega
 have HST := Lib.hid hst
 have HL := Lib.hid hL
 obtain ⟨R, hR⟩ : ∃ R, goK p.length p 0 H0 = R := ⟨_, rfl⟩
 have HPK : Hid (AL p = Sm p.length R) := Lib.hid (by unfold AL; rw [if_pos ⟨hp1, hp2⟩, ← hR]; rfl)
 rcases hr with h0 | ⟨b, o, rfl, hin⟩
 · omega
 have hbw : b < w.heap.size := World.block_lt_of_cell? w ⟨b, _, none⟩ (hin 0 (by omega)).1
 have hW1 := Ad (w := w.alloc (.map #[{ key := .int .i64 0, val := .int .i64 0, born := 0 }] 1)) (.cells #[.slice (some ⟨b, o, none⟩) p.length c, .map (some w.heap.size)] 87)
 have hW2 := Ab (w.alloc (.map #[{ key := .int .i64 0, val := .int .i64 0, born := 0 }] 1)) (.cells #[.slice (some ⟨b, o, none⟩) p.length c, .map (some w.heap.size)] 87)
 rw [hs0] at hW2
 have hB0 := Aa hb0 hb0.size hW1
 have hcka : CkAt w.heap.size p (w.heap.size + 1) w.heap.size (some ⟨b, o, none⟩) c H0 ((w.alloc (.map #[{ key := .int .i64 0, val := .int .i64 0, born := 0 }] 1)).alloc (.cells #[.slice (some ⟨b, o, none⟩) p.length c, .map (some w.heap.size)] 87)) :=
   ⟨hW2, SM (blk hW1 hm0), by omega, Nat.le_refl _, by omega, hB0.size, RowI.keep (Or.inr ⟨b, o, rfl, hin⟩) hB0, fun b' o' e => by cases e; omega⟩
 have hloop : QC w.heap.size p (w.heap.size + 1) w.heap.size (some ⟨b, o, none⟩) c w R true 0 ((w.alloc (.map #[{ key := .int .i64 0, val := .int .i64 0, born := 0 }] 1)).alloc (.cells #[.slice (some ⟨b, o, none⟩) p.length c, .map (some w.heap.size)] 87)) :=
   ⟨hB0, Or.inl ⟨rfl, H0, hR, hcka, fun k v hv => by unfold H0 BR at hv; split at hv <;> cases hv; omega⟩⟩
 have HLOOP := Lib.hid hloop
 clear hm0 hb0 hs0 hin hbw hW1 hW2 hB0 hcka hloop hR hst hL h00 hbig
 unfold LIM at hlen
 have d2 : decide ((p.length : Int) ≤ 256) = true := decide_eq_true (by omega)
 go_enter Tryz.func16, Tryz.ntmps16
 go_wp2_with fail
 go_loopw [4, 5] (fun s4 s5 wr => ∃ (ob : Bool) (i : Nat), s4 = .bool ob ∧ s5 = .int .i64 i ∧ i ≤ p.length ∧ QC w.heap.size p (w.heap.size + 1) w.heap.size (some ⟨b, o, none⟩) c w R ob i wr) (fun _ s5 _ => p.length - (intOf s5).toNat)
 case atStart => exact ⟨true, 0, rfl, rfl, Nat.zero_le _, HLOOP.out⟩
 case round =>
   clear HLOOP hins hmm
   obtain ⟨ob, i, rfl, rfl, hil, hB, hor⟩ := hrel
   have HB := Lib.hid hB
   rcases hor with ⟨rfl, h, hg, hck, hok⟩ | ⟨rfl, hR⟩
   · by_cases hlt : i < p.length
     · have hs := HST.out _ (List.getElem_mem hlt)
       have hstep := Pl w.heap.size p (w.heap.size + 1) w.heap.size (some ⟨b, o, none⟩) c h i hlt hp2 hs (fun k v hv => by have := hok k v hv; omega) wr (HL.out.below HB.out) hck
       rw [List.drop_eq_getElem_cons hlt, goK] at hg
       have htk : 0 ≤ p[i].s.takes ∨ p[i].s.ok = false := by
         cases hk : p[i].s.ok with
         | true => exact Or.inl (Bn _ hk).1
         | false => exact Or.inr rfl
       cases hsk : AE p.length p[i] i h with
       | none =>
         rw [hsk] at hg hstep
         have HG : Hid (R = none) := Lib.hid hg.symm
         have hstep2 : Calls Tryz.prog 35 #[.pointer (some ⟨w.heap.size + 1, 0, none⟩), .int .i64 i] wr fun e w' => Below w.heap.size wr w' ∧ e = .returned (.bool false) := hstep
         have HSTP := Lib.hid hstep2
         clear hg hstep hstep2 hs htk hsk hck hok
         go_wp2_with (go_at_call 35; (with_reducible refine (HSTP.out).mono ?_); rintro e w7 ⟨hb7, rfl⟩; have HB7 := Lib.hid hb7; clear hb7)
         go_roundw
         case rel => exact ⟨false, i + 1, rfl, by go_num, by omega, HB.out.trans HB7.out, Or.inr ⟨rfl, HG.out⟩⟩
         case measure => simp [intOf]; omega
       | some h' =>
         rw [hsk] at hg hstep
         have HG : Hid (goK p.length (p.drop (i + 1)) (i + 1) h' = R) := Lib.hid hg
         have HOK : Hid (HOk h' (((i + 1 : Nat) : Int) + 1)) := Lib.hid (by have := Qn hsk hok htk; simpa using this)
         have hstep2 : Calls Tryz.prog 35 #[.pointer (some ⟨w.heap.size + 1, 0, none⟩), .int .i64 i] wr fun e w' => Below w.heap.size wr w' ∧ e = .returned (.bool true) ∧ CkAt w.heap.size p (w.heap.size + 1) w.heap.size (some ⟨b, o, none⟩) c h' w' := hstep
         have HSTP := Lib.hid hstep2
         clear hg hstep hstep2 hs htk hsk hck hok
         go_wp2_with (go_at_call 35; (with_reducible refine (HSTP.out).mono ?_); rintro e w7 ⟨hb7, rfl, hck7⟩; have HB7 := Lib.hid hb7; have HCK7 := Lib.hid hck7; clear hb7 hck7)
         go_roundw
         case rel => exact ⟨true, i + 1, rfl, by go_num, by omega, HB.out.trans HB7.out, Or.inl ⟨rfl, h', HG.out, HCK7.out, HOK.out⟩⟩
         case measure => simp [intOf]; omega
     · have hie : i = p.length := by omega
       subst hie
       rw [List.drop_of_length_le (Nat.le_refl _), goK] at hg
       have hpk := HPK.out
       rw [← hg] at hpk
       unfold Sm at hpk
       simp only at hpk
       have r1 := Nd hck.2.1 (p.length : Int)
       obtain ⟨y0, y1⟩ := AT hck.1
       cases hv : h (p.length : Int) with
       | none =>
         rw [hv] at r1 hpk
         have HPK2 := Lib.hid hpk
         clear hpk hv hck hok hg
         go_wp2_with fail
         go_ret
         exact ⟨by rw [HPK2.out]; rfl, HB.out⟩
       | some u =>
         rw [hv] at r1 hpk
         by_cases hu : u = 1
         · subst hu
           have HPK2 := Lib.hid hpk
           clear hpk hv hck hok hg
           go_wp2_with fail
           go_ret
           exact ⟨by rw [HPK2.out]; rfl, HB.out⟩
         · have hpk : AL p = 11 := by rw [hpk]; exact if_neg (by simpa using hu)
           have HPK2 := Lib.hid hpk
           have d : (u != 1) = true := by simpa using hu
           clear hpk hv hck hok hg hu
           go_wp2_with fail
           go_ret
           exact ⟨by rw [HPK2.out]; rfl, HB.out⟩
   · have hpk := HPK.out
     rw [hR] at hpk
     have hpk : AL p = 11 := hpk
     have HPK2 := Lib.hid hpk
     clear hpk hR
     go_wp2_with fail
     all_goals go_ret
     all_goals exact ⟨by rw [HPK2.out]; rfl, HB.out⟩
end Go.Proofs.YtbemgcjckchdjaaGreatDoor
