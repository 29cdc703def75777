import Derived.Test.YtbemgcjckchdjaaGreatDoorLLd
import Derived.Deep.DeepCutAuto
import Derived.Deep.CutBlock
import Derived.Deep.RegionHeld3
/- lex.text. -/
namespace Go.Proofs.YtbemgcjckchdjaaGreatDoor
open Go.RowKit
set_option linter.unusedSimpArgs false
set_option linter.unusedVariables false
def CR : Nat → List UInt8 → List UInt8 → Nat → Option (List UInt8 × Nat)
 | 0, _, _, _ => none
 | f + 1, r, acc, n => if Lib.indexByte r 39 < 0 then none else
   if (r.drop ((Lib.indexByte r 39).toNat + 1)).head? = some 39 then CR f (r.drop ((Lib.indexByte r 39).toNat + 2)) ((acc ++ r.take (Lib.indexByte r 39).toNat) ++ [39]) (n + (Lib.indexByte r 39).toNat + 2)
   else some (acc ++ r.take (Lib.indexByte r 39).toNat, n + (Lib.indexByte r 39).toNat + 1)
def Ft : Option (List UInt8 × Nat) → RD
 | none => RD.no 13
 | some (t, n) => if 1024 < t.length then RD.no 4 else if Lib.validD t then ⟨4, ⟨t.toArray⟩, 0, n, 0⟩ else RD.no 9
def GG (s : ByteArray) : RD := Ft (CR (s.size + 1) (s.data.toList.drop 1) [] 1)
theorem Em : ∀ (l : List UInt8) (c : UInt8), Lib.indexByte l c < l.length
 | [], c => by simp [Lib.indexByte]
 | b :: l, c => by
   have h := Em l c
   unfold Lib.indexByte
   split
   · simp only [List.length_cons]; omega
   · split
     · simp only [List.length_cons]; omega
     · simp only [List.length_cons]; omega
theorem Gj : ∀ (l : List UInt8) (c : UInt8), -1 ≤ Lib.indexByte l c
 | [], c => by simp [Lib.indexByte]
 | b :: l, c => by
   have h := Gj l c
   unfold Lib.indexByte
   split
   · omega
   · split <;> omega
theorem EE (s : ByteArray) (n : Nat) : (s.extract n s.size).data.toList = s.data.toList.drop n := by
 rw [ByteArray.data_extract, Array.toList_extract]
 simp [List.extract_eq_take_drop]
 exact List.take_of_length_le (by simp)
theorem Fs (s : ByteArray) (n i : Nat) : (s.extract n (n + i)).data.toList = (s.data.toList.drop n).take i := by
 rw [ByteArray.data_extract, Array.toList_extract]
 simp [List.extract_eq_take_drop]
theorem Gh (s : ByteArray) (n : Nat) : (s.data.toList.drop n).head? = if h : n < s.size then some s[n] else none := by
 split
 · rename_i h; rw [List.head?_drop]; simp; exact Array.getElem?_eq_getElem (by simpa using h)
 · rw [List.head?_drop]; simp; omega
theorem CJ (w : World) (q : ByteArray) : (w.alloc (.cells #[.int .u8 4, .string q, .int .i64 0, .int .i64 0] 158)).cell? ⟨w.heap.size, 0, none⟩ = some (.int .u8 4) ∧ (w.alloc (.cells #[.int .u8 4, .string q, .int .i64 0, .int .i64 0] 158)).cell? ⟨w.heap.size, 1, none⟩ = some (.string q) ∧ (w.alloc (.cells #[.int .u8 4, .string q, .int .i64 0, .int .i64 0] 158)).cell? ⟨w.heap.size, 2, none⟩ = some (.int .i64 0) ∧ (w.alloc (.cells #[.int .u8 4, .string q, .int .i64 0, .int .i64 0] 158)).cell? ⟨w.heap.size, 3, none⟩ = some (.int .i64 0) := by
 obtain ⟨h0, h1, h2, h3, _⟩ := AH (Ab w (.cells #[.int .u8 4, .string q, .int .i64 0, .int .i64 0] 158))
 exact ⟨h0, h1, h2, h3⟩
theorem Lu {f n i : Nat} {r acc : List UInt8} (hi : Lib.indexByte r 39 = (i : Int)) (hh : (r.drop (i + 1)).head? ≠ some 39) : CR (f + 1) r acc n = some (acc ++ r.take i, n + i + 1) := by
 rw [CR, hi, if_neg (by omega), Int.toNat_natCast, if_neg hh]
theorem S9 {f n i : Nat} {r acc : List UInt8} (hi : Lib.indexByte r 39 = (i : Int)) (hh : (r.drop (i + 1)).head? = some 39) : CR (f + 1) r acc n = CR f (r.drop (i + 2)) ((acc ++ r.take i) ++ [39]) (n + i + 2) := by
 rw [CR, hi, if_neg (by omega), Int.toNat_natCast, if_pos hh]
theorem Q3 {f n : Nat} {r acc : List UInt8} (hi : Lib.indexByte r 39 < 0) : CR (f + 1) r acc n = none := by
 rw [CR, if_pos hi]
set_option maxHeartbeats 4000000 in
set_option maxRecDepth 100000 in
theorem Qv (s : ByteArray) (w : World) (hs : s.size ≤ LIM) (h1 : 1 ≤ s.size) (hL : Laid w) : Calls Tryz.prog 114 #[.string s] w fun e w' => e = .returned (GG s).val ∧ Below w.heap.size w w' := by
 unfold LIM at hs
 obtain ⟨R, hR⟩ : ∃ R, CR (s.size + 1) (s.data.toList.drop 1) [] 1 = R := ⟨_, rfl⟩
 have hfin : GG s = Ft R := by unfold GG; rw [hR]
 rw [hfin]
 have HR := Lib.hid hR
 have HL := Lib.hid hL
 clear hR hfin hL
 go_enter Tryz.func114, Tryz.ntmps114
 go_upto_block 0 with (fail)
 have hZ := Af (o := .cells #[.pointer none, .slice none 0 0] 217) (Ab w (.cells #[.int .u8 0, .string ⟨#[]⟩, .int .i64 0, .int .i64 0] 158))
 have hS := Ab (w.alloc (.cells #[.int .u8 0, .string ⟨#[]⟩, .int .i64 0, .int .i64 0] 158)) (.cells #[.pointer none, .slice none 0 0] 217)
 have hD := Aj (w := w) (.cells #[.int .u8 0, .string ⟨#[]⟩, .int .i64 0, .int .i64 0] 158) (.cells #[.pointer none, .slice none 0 0] 217)
 have esz : (w.alloc (.cells #[.int .u8 0, .string ⟨#[]⟩, .int .i64 0, .int .i64 0] 158)).heap.size = w.heap.size + 1 := by simp
 rw [esz] at hS
 generalize (w.alloc (.cells #[.int .u8 0, .string ⟨#[]⟩, .int .i64 0, .int .i64 0] 158)).alloc (.cells #[.pointer none, .slice none 0 0] 217) = W at *
 have hB0 : Bld (w.heap.size + 1) (w.heap.size + 1) [] W := Or.inl ⟨Nat.le_refl _, .slice none 0 0, hS, World.ownsRow_nil _ _ _ _, by simp [Value.ownBlock]⟩
 have lS := lt_of_block hS
 clear hS esz
 go_cut [6] (fun s6 wx => ∃ (n : Nat) (acc : List UInt8), s6 = .int .i64 n ∧ R = some (acc, n) ∧ 1 ≤ n ∧ n ≤ s.size ∧ acc.length ≤ n ∧ Bld (w.heap.size + 1) (w.heap.size + 1) acc wx ∧ Below w.heap.size w wx ∧ wx.heap[w.heap.size]? = some (.cells #[.int .u8 0, .string ⟨#[]⟩, .int .i64 0, .int .i64 0] 158 (0, 0)) ∧ w.heap.size + 1 < wx.heap.size)
 case first =>
  go_wp2_with fail
  go_loopw [6] (fun s6 wr => ∃ (n : Nat) (acc : List UInt8) (f : Nat), s6 = .int .i64 n ∧ s.size - n < f ∧ Hid (CR f (s.data.toList.drop n) acc n = R) ∧ 1 ≤ n ∧ n ≤ s.size ∧ acc.length ≤ n ∧ Bld (w.heap.size + 1) (w.heap.size + 1) acc wr ∧ Below w.heap.size w wr ∧ wr.heap[w.heap.size]? = some (.cells #[.int .u8 0, .string ⟨#[]⟩, .int .i64 0, .int .i64 0] 158 (0, 0)) ∧ w.heap.size + 1 < wr.heap.size) (fun s6 _ => s.size + 1 - (intOf s6).toNat)
  case atStart => exact ⟨1, [], s.size + 1, rfl, by omega, HR, by omega, h1, by simp, hB0, hD, hZ, lS⟩
  case round =>
    clear HR hB0 hD hZ lS
    obtain ⟨n, acc, f, rfl, hf, HT, hn1, hns, hacc, hB, hD, hZ, lS⟩ := hrel
    obtain ⟨f, rfl⟩ : ∃ m, f = m + 1 := ⟨f - 1, by omega⟩
    obtain ⟨z, hz⟩ : ∃ z, Lib.indexByte (s.data.toList.drop n) 39 = z := ⟨_, rfl⟩
    have hzl := Em (s.data.toList.drop n) 39
    have hzg := Gj (s.data.toList.drop n) 39
    rw [hz] at hzl hzg
    have hzl2 : z < (s.size : Int) - n := by simp at hzl; omega
    have HI : Hid (∀ w' : World, Calls Tryz.prog 140 #[.string (s.extract n s.size), .int .u8 39] w' fun e w2 => e = .returned (.int .i64 z) ∧ w2 = w') := Lib.hid (fun w' => by
      have h := Tryz.strings_IndexByte (s.extract n s.size) 39 w'
      rw [EE, show ((39 : Int).toNat.toUInt8) = 39 from rfl, hz] at h
      exact h)
    have HZ := Lib.hid hz
    have HB := Lib.hid hB
    have HD := Lib.hid hD
    have HK := Lib.hid hZ
    obtain ⟨y0, y1, y2, y3, y4⟩ := AH hZ
    clear hz hzl hB hD hZ
    by_cases hneg : z < 0
    · have hrn : R = none := by rw [← HT.out]; exact Q3 (by rw [HZ.out]; exact hneg)
      have HN := Lib.hid hrn
      clear hrn hzg
      go_wp2_with (go_at_call 140; refine (HI.out _).mono ?_; rintro e w2 ⟨rfl, rfl⟩)
      refine bodyPost_ret (v := .tuple #[.agg #[.int .u8 0, .string ⟨#[]⟩, .int .i64 0, .int .i64 0], .int .i64 0, .int .i64 13]) (by simp [results, Tryz.results114, go_sem, Ai, y0, y1, y2, y3]) rfl ?_
      exact ⟨by rw [HN.out]; rfl, Bh (r := RD.no 0) HD.out (Nat.le_refl _)⟩
    · obtain ⟨i, rfl⟩ := Int.eq_ofNat_of_zero_le (show 0 ≤ z by omega)
      have hil : n + i < s.size := by omega
      have HW := Lib.hid (fun (w' : World) (hb : Bld (w.heap.size + 1) (w.heap.size + 1) acc w') (hw : w.heap.size + 1 ≤ w'.heap.size) => II (w.heap.size + 1) (w.heap.size + 1) acc (s.extract n (n + i)) w' hb (by rw [ByteArray.size_extract]; omega) hw)
      obtain ⟨m, hm⟩ : ∃ m, n + i + 1 = m := ⟨_, rfl⟩
      have hM : (n : Int) + ((i : Int) + 1) = (m : Int) := by omega
      have hms : m ≤ s.size := by omega
      have HM := Lib.hid hm
      have HWB := Lib.hid (fun (a : List UInt8) (w' : World) (hb : Bld (w.heap.size + 1) (w.heap.size + 1) a w') (ha : a.length + 1 ≤ 1073741824) (hw : w.heap.size + 1 ≤ w'.heap.size) => show Calls Tryz.prog 142 #[.pointer (some ⟨w.heap.size + 1, 0, none⟩), .int .u8 39] w' fun e w2 => e = .returned .nilIface ∧ Bld (w.heap.size + 1) (w.heap.size + 1) (a ++ [39]) w2 ∧ Below (w.heap.size + 1) w' w2 from JZ (w.heap.size + 1) (w.heap.size + 1) a 39 w' hb ha hw)
      have hhd := Gh s m
      have hdd : ((s.data.toList.drop n).drop (i + 1)).head? = (s.data.toList.drop m).head? := by rw [List.drop_drop, ← HM.out, Nat.add_assoc]
      have hxl : (s.extract n (n + i)).data.toList.length = i := by rw [Fs]; simp; omega
      have HXL := Lib.hid hxl
      have HDD := Lib.hid hdd
      have HHD := Lib.hid hhd
      clear hm hhd hdd hxl hneg hzg hzl2
      by_cases hme : m = s.size
      · have hnone : ((s.data.toList.drop n).drop (i + 1)).head? ≠ some 39 := by rw [HDD.out, HHD.out, dif_neg (by omega)]; simp
        have HRR : Hid (R = some (acc ++ (s.extract n (n + i)).data.toList, m)) := Lib.hid (by rw [← HT.out, Lu HZ.out hnone, Fs, HM.out])
        have g1 : (m == s.size) = true := by simpa using hme
        have g2 : ((m : Int) == (s.size : Int)) = true := by simp [hme]
        have HME := Lib.hid hme
        clear hnone hme HT
        go_wp2_with (first | (go_at_call 140; refine (HI.out _).mono ?_; rintro e w2 ⟨rfl, rfl⟩) | (go_at_call 141; refine (HW.out _ HB.out (by omega)).mono ?_; rintro e w3 ⟨rfl, hb3, hB3⟩))
        go_meet
        exact ⟨m, acc ++ (s.extract n (n + i)).data.toList, rfl, HRR.out, by omega, hms, by rw [List.length_append, HXL.out]; have := HM.out; omega, hb3, HD.out.trans (hB3.mono (by omega)), (hB3.block _ (by omega)).trans HK.out, Nat.lt_of_lt_of_le lS hB3.size⟩
      · have hmlt : m < s.size := by omega
        have g1 : (m == s.size) = false := by simpa using hme
        have g2 : ((m : Int) == (s.size : Int)) = false := by simp; omega
        have HC0 : Hid (((s.data.toList.drop n).drop (i + 1)).head? = some s[m]) := Lib.hid (by rw [HDD.out, HHD.out, dif_pos hmlt])
        obtain ⟨c, hc⟩ : ∃ c, s[m] = c := ⟨_, rfl⟩
        rw [hc] at HC0
        clear hme
        by_cases hq : c = 39
        · have HRR : Hid (CR f (s.data.toList.drop (m + 1)) ((acc ++ (s.extract n (n + i)).data.toList) ++ [39]) (m + 1) = R) := Lib.hid (by
           have h := HT.out
           rw [S9 HZ.out (by rw [HC0.out, hq]), List.drop_drop] at h
           rw [Fs, ← HM.out]
           exact h)
          have g3 : ((c.toNat : Int) != 39) = false := by rw [hq]; decide
          clear hq HT HC0
          go_wp2_with (first | (go_at_call 140; refine (HI.out _).mono ?_; rintro e w2 ⟨rfl, rfl⟩) | (go_at_call 141; refine (HW.out _ HB.out (by omega)).mono ?_; rintro e w3 ⟨rfl, hb3, hB3⟩) | (go_at_call 142; refine (HWB.out _ _ hb3 (by rw [List.length_append, HXL.out]; have := HM.out; omega) (Nat.le_trans (by omega) hB3.size)).mono ?_; rintro e w4 ⟨rfl, hb4, hB4⟩))
          go_roundw
          case rel => exact ⟨m + 1, (acc ++ (s.extract n (n + i)).data.toList) ++ [39], f, by go_num, by have := HM.out; omega, HRR, by omega, by omega, by simp only [List.length_append, HXL.out, List.length_cons, List.length_nil]; have := HM.out; omega, hb4, (HD.out.trans (hB3.mono (by omega))).trans (hB4.mono (by omega)), (hB4.block _ (by omega)).trans ((hB3.block _ (by omega)).trans HK.out), Nat.lt_of_lt_of_le (Nat.lt_of_lt_of_le lS hB3.size) hB4.size⟩
          case measure => simp [intOf]; have := HM.out; omega
        · have HRR : Hid (R = some (acc ++ (s.extract n (n + i)).data.toList, m)) := Lib.hid (by rw [← HT.out, Lu HZ.out (by rw [HC0.out]; simpa using hq), Fs, HM.out])
          have g3 : ((c.toNat : Int) != 39) = true := by
           rw [bne_iff_ne]
           intro h
           exact hq (UInt8.toNat_inj.1 (by have : ((39 : UInt8).toNat : Int) = 39 := (by decide); omega))
          clear hq HT HC0
          go_wp2_with (first | (go_at_call 140; refine (HI.out _).mono ?_; rintro e w2 ⟨rfl, rfl⟩) | (go_at_call 141; refine (HW.out _ HB.out (by omega)).mono ?_; rintro e w3 ⟨rfl, hb3, hB3⟩))
          go_meet
          exact ⟨m, acc ++ (s.extract n (n + i)).data.toList, rfl, HRR.out, by omega, hms, by rw [List.length_append, HXL.out]; have := HM.out; omega, hb3, HD.out.trans (hB3.mono (by omega)), (hB3.block _ (by omega)).trans HK.out, Nat.lt_of_lt_of_le lS hB3.size⟩
 case rest =>
  obtain ⟨n, acc, rfl, hRR, hn1, hns, hacc, hB, hDx, hZx, lSx⟩ := hcut
  clear hB0 hD hZ lS HR
  have HST := Lib.hid (Tryz.Builder_String_any (w.heap.size + 1) (w.heap.size + 1) acc wc hB (by omega))
  have hvs : (⟨acc.toArray⟩ : ByteArray).size = acc.length := by simp [ByteArray.size]
  have HVA := Lib.hid (fun (w' : World) h => Tryz.utf8_ValidString (⟨acc.toArray⟩ : ByteArray) w' (by rw [hvs]; omega) h)
  have hvd : Lib.validD (⟨acc.toArray⟩ : ByteArray).data.toList = Lib.validD acc := by simp
  rw [hvd] at HVA
  have HRR : Hid (Ft R = if 1024 < acc.length then RD.no 4 else if Lib.validD acc then ⟨4, ⟨acc.toArray⟩, 0, n, 0⟩ else RD.no 9) := Lib.hid (by rw [hRR]; rfl)
  obtain ⟨q, hq⟩ : ∃ q : ByteArray, (⟨acc.toArray⟩ : ByteArray) = q := ⟨_, rfl⟩
  rw [hq] at HST HVA hvs
  have HQ := Lib.hid hq
  have HVS := Lib.hid hvs
  have HZX := Lib.hid hZx
  have HDX := Lib.hid hDx
  clear hB hvd hRR hq hZx hDx
  by_cases hlong : 1024 < q.size
  · have d1 : decide ((1024 : Int) < (q.size : Int)) = true := by simp; omega
    have HN : Hid (Ft R = RD.no 4) := Lib.hid (by rw [HRR.out, if_pos (by rw [← HVS.out]; exact hlong)])
    clear hvs
    go_wp2_with (first | (go_at_call 143; refine (HST.out).mono ?_; rintro e w3 ⟨rfl, hB3⟩; obtain ⟨y0, y1, y2, y3, y4⟩ := AH ((hB3.block _ (by omega)).trans HZX.out); have l3 := Nat.lt_of_lt_of_le lSx hB3.size; have l3' : w.heap.size < w3.heap.size := (by omega)))
    refine bodyPost_ret (v := .tuple #[.agg #[.int .u8 0, .string ⟨#[]⟩, .int .i64 0, .int .i64 0], .int .i64 0, .int .i64 4]) (by simp [results, Tryz.results114, go_sem, Ai, y0, y1, y2, y3, l3', Nat.ne_of_lt l3']) rfl ?_
    exact ⟨by rw [HN.out]; rfl, (Bh (r := RD.no 0) (u0 := .int .u8 0) (u1 := .string ⟨#[]⟩) (u2 := .int .i64 0) (u3 := .int .i64 0) (HDX.out.trans (hB3.mono (by omega))) (Nat.le_refl _)).alloc (by rw [Ay]; omega) _⟩
  · have d1 : decide ((1024 : Int) < (q.size : Int)) = false := by simp; omega
    have HR2 : Hid (Ft R = if Lib.validD acc then ⟨4, q, 0, n, 0⟩ else RD.no 9) := Lib.hid (by rw [HRR.out, if_neg (by rw [← HVS.out]; exact hlong), HQ.out])
    clear hvs hlong
    cases hv : Lib.validD acc with
    | false =>
      rw [hv] at HVA HR2
      have HN : Hid (Ft R = RD.no 9) := Lib.hid (by rw [HR2.out, if_neg (by simp)])
      clear hv
      go_wp2_with (first | (go_at_call 143; refine (HST.out).mono ?_; rintro e w3 ⟨rfl, hB3⟩; have HZ3 := Lib.hid ((hB3.block _ (by omega)).trans HZX.out); obtain ⟨y0, y1, y2, y3, y4⟩ := AH HZ3.out; have l3 := Nat.lt_of_lt_of_le lSx hB3.size; have l3' : w.heap.size < w3.heap.size := (by omega)) | (go_at_call 38; refine (HVA.out _ (Tabs.below (HL.out.below (HDX.out.trans (hB3.mono (by omega)))).tabs ((Below.refl _ _).alloc (Nat.le_refl _) _))).mono ?_; rintro e w5 ⟨rfl, hb5⟩; obtain ⟨x0, x1, x2, x3, x4⟩ := AH (blk hb5 (Af HZ3.out)); have t50 := Ac hb5 (CJ w3 q).1; have t51 := Ac hb5 (CJ w3 q).2.1; have t52 := Ac hb5 (CJ w3 q).2.2.1; have t53 := Ac hb5 (CJ w3 q).2.2.2))
      refine bodyPost_ret (v := .tuple #[.agg #[.int .u8 0, .string ⟨#[]⟩, .int .i64 0, .int .i64 0], .int .i64 0, .int .i64 9]) (by simp [results, Tryz.results114, go_sem, Ai, x0, x1, x2, x3]) rfl ?_
      exact ⟨by rw [HN.out]; rfl, Bh (r := RD.no 0) (Aa ((HDX.out.trans (hB3.mono (by omega))).alloc (by omega) _) (by simp; omega) hb5) (Nat.le_refl _)⟩
    | true =>
      rw [hv] at HVA HR2
      have HN : Hid (Ft R = ⟨4, q, 0, n, 0⟩) := Lib.hid (by rw [HR2.out, if_pos rfl])
      clear hv
      go_wp2_with (first | (go_at_call 143; refine (HST.out).mono ?_; rintro e w3 ⟨rfl, hB3⟩; have HZ3 := Lib.hid ((hB3.block _ (by omega)).trans HZX.out); obtain ⟨y0, y1, y2, y3, y4⟩ := AH HZ3.out; have l3 := Nat.lt_of_lt_of_le lSx hB3.size; have l3' : w.heap.size < w3.heap.size := (by omega)) | (go_at_call 38; refine (HVA.out _ (Tabs.below (HL.out.below (HDX.out.trans (hB3.mono (by omega)))).tabs ((Below.refl _ _).alloc (Nat.le_refl _) _))).mono ?_; rintro e w5 ⟨rfl, hb5⟩; obtain ⟨x0, x1, x2, x3, x4⟩ := AH (blk hb5 (Af HZ3.out)); have t50 := Ac hb5 (CJ w3 q).1; have t51 := Ac hb5 (CJ w3 q).2.1; have t52 := Ac hb5 (CJ w3 q).2.2.1; have t53 := Ac hb5 (CJ w3 q).2.2.2))
      refine bodyPost_ret (v := .tuple #[.agg #[.int .u8 4, .string q, .int .i64 0, .int .i64 0], .int .i64 n, .int .i64 0]) (by simp [results, Tryz.results114, go_sem, Ai, x0, x1, x2, x3]) rfl ?_
      exact ⟨by rw [HN.out]; rfl, Bh (r := RD.no 0) (Aa ((HDX.out.trans (hB3.mono (by omega))).alloc (by omega) _) (by simp; omega) hb5) (Nat.le_refl _)⟩
/- lex.forms, and which form a byte begins. -/
def Do (c : UInt8) : Bool := (c.toNat : Int) == 39
def FJ (c : UInt8) : Bool := true
theorem Ov (c : UInt8) (w : World) : Calls Tryz.prog 113 #[.int .u8 c.toNat] w fun e w' => e = .returned (.bool (Do c)) ∧ w = w' := by
 unfold Do
 go_enter Tryz.func113, Tryz.ntmps113
 go_wp2
 go_ret
 exact ⟨rfl, rfl⟩
theorem Q0 (c : UInt8) (w : World) : Calls Tryz.prog 115 #[.int .u8 c.toNat] w fun e w' => e = .returned (.bool (FJ c)) ∧ w = w' := by
 unfold FJ
 go_enter Tryz.func115, Tryz.ntmps115
 go_wp2
 go_ret
 exact ⟨rfl, rfl⟩
def Cr (c : UInt8) : Nat := if B2 c then 0 else if Bb c then 1 else if Do c then 2 else 3
theorem Ad {w : World} (o : Obj) : Below w.heap.size w (w.alloc o) := (Below.refl _ _).alloc (Nat.le_refl _) _
def Forms (w : World) (q : Nat) : Prop := w.cell? ⟨q, 0, none⟩ = some (.func (.func 109) #[] #[]) ∧ w.cell? ⟨q, 1, none⟩ = some (.func (.func 110) #[] #[]) ∧ w.cell? ⟨q, 2, none⟩ = some (.func (.func 111) #[] #[]) ∧ w.cell? ⟨q, 3, none⟩ = some (.func (.func 112) #[] #[]) ∧ w.cell? ⟨q, 4, none⟩ = some (.func (.func 113) #[] #[]) ∧ w.cell? ⟨q, 5, none⟩ = some (.func (.func 114) #[] #[]) ∧ w.cell? ⟨q, 6, none⟩ = some (.func (.func 115) #[] #[]) ∧ w.cell? ⟨q, 7, none⟩ = some (.func (.func 116) #[] #[])
theorem Forms.keep {w w' : World} {q : Nat} (h : Forms w q) (hb : Below w.heap.size w w') : Forms w' q :=
 ⟨Ac hb h.1, Ac hb h.2.1, Ac hb h.2.2.1, Ac hb h.2.2.2.1, Ac hb h.2.2.2.2.1, Ac hb h.2.2.2.2.2.1, Ac hb h.2.2.2.2.2.2.1, Ac hb h.2.2.2.2.2.2.2⟩
theorem NH (w : World) : Calls Tryz.prog 81 #[] w fun e w' => ∃ q, e = .returned (.slice (some ⟨q, 0, none⟩) 4 4) ∧ Forms w' q ∧ q < w'.heap.size ∧ w.heap.size ≤ q ∧ Below w.heap.size w w' := by
 have h := Ab w (.cells #[.func (.func 109) #[] #[], .func (.func 110) #[] #[], .func (.func 111) #[] #[], .func (.func 112) #[] #[], .func (.func 113) #[] #[], .func (.func 114) #[] #[], .func (.func 115) #[] #[], .func (.func 116) #[] #[]] 171)
 have hc : Forms (w.alloc (.cells #[.func (.func 109) #[] #[], .func (.func 110) #[] #[], .func (.func 111) #[] #[], .func (.func 112) #[] #[], .func (.func 113) #[] #[], .func (.func 114) #[] #[], .func (.func 115) #[] #[], .func (.func 116) #[] #[]] 171)) w.heap.size := by
  unfold Forms World.cell?
  simp only [h]
  exact ⟨rfl, rfl, rfl, rfl, rfl, rfl, rfl, rfl⟩
 have HC := Lib.hid hc
 clear h hc
 go_enter Tryz.func81, Tryz.ntmps81
 go_wp2
 go_ret
 exact ⟨w.heap.size, rfl, HC.out, by simp, Nat.le_refl _, Ad _⟩
set_option maxHeartbeats 1000000 in
theorem Sr (s : ByteArray) (a p g : Nat) (w : World) (ha : a < s.size) (hs : s.size ≤ 1048576) (hp : w.cell? ⟨p, 0, none⟩ = some (.string s)) (hg : w.cell? ⟨g, 0, none⟩ = some (.int .i64 a)) :
  Calls Tryz.prog 85 #[.agg #[.func (.func 109) #[] #[], .func (.func 110) #[] #[]], .pointer (some ⟨p, 0, none⟩), .pointer (some ⟨g, 0, none⟩)] w fun e w' => e = .returned (.bool (B2 s[a])) ∧ Below w.heap.size w w' := by
 obtain ⟨c, hc⟩ : ∃ c, s[a] = c := ⟨_, rfl⟩
 rw [hc]
 have HC := Lib.hid (fun w' : World => DU c w')
 have hF := Ab w (.cells #[.func (.func 109) #[] #[], .func (.func 110) #[] #[]] 171)
 have c0 : (w.alloc (.cells #[.func (.func 109) #[] #[], .func (.func 110) #[] #[]] 171)).cell? ⟨w.heap.size, 0, none⟩ = some (.func (.func 109) #[] #[]) := by unfold World.cell?; rw [hF]; rfl
 have hD := Ad (w := w) (.cells #[.func (.func 109) #[] #[], .func (.func 110) #[] #[]] 171)
 have q1 := Ac hD hp
 have q2 := Ac hD hg
 have a0 : (0 : Int) ≤ (a : Int) := by omega
 have a1 : (a : Int) < (s.size : Int) := by omega
 clear hF hp hg
 go_enter Tryz.func85, Tryz.ntmps85
 go_wp2_with fail
 generalize w.alloc (.cells #[.func (.func 109) #[] #[], .func (.func 110) #[] #[]] 171) = W at *
 have hbd := (Below.refl W.heap.size W).drew
 go_region_held3 (fun w' => Below W.heap.size W w' ∧ w'.cell? ⟨w.heap.size, 0, none⟩ = some (.func (.func 109) #[] #[]) ∧ w'.cell? ⟨p, 0, none⟩ = some (.string s) ∧ w'.cell? ⟨g, 0, none⟩ = some (.int .i64 a))
  (first | (with_reducible exact ⟨hbd, Ac hbd c0, Ac hbd q1, Ac hbd q2⟩) | (have hS := ‹_ ∧ _›; with_reducible exact hS))
  ((go_at_call 109; refine (HC.out _).mono ?_; rintro e w7 ⟨rfl, rfl⟩))
 all_goals (go_wp2_with fail; go_ret; have hS := ‹_ ∧ _›; exact ⟨rfl, Aa hD hD.size hS.1⟩)
set_option maxHeartbeats 1000000 in
theorem Ss (s : ByteArray) (a p g : Nat) (w : World) (ha : a < s.size) (hs : s.size ≤ 1048576) (hp : w.cell? ⟨p, 0, none⟩ = some (.string s)) (hg : w.cell? ⟨g, 0, none⟩ = some (.int .i64 a)) :
  Calls Tryz.prog 85 #[.agg #[.func (.func 111) #[] #[], .func (.func 112) #[] #[]], .pointer (some ⟨p, 0, none⟩), .pointer (some ⟨g, 0, none⟩)] w fun e w' => e = .returned (.bool (Bb s[a])) ∧ Below w.heap.size w w' := by
 obtain ⟨c, hc⟩ : ∃ c, s[a] = c := ⟨_, rfl⟩
 rw [hc]
 have HC := Lib.hid (fun w' : World => Ge c w')
 have hF := Ab w (.cells #[.func (.func 111) #[] #[], .func (.func 112) #[] #[]] 171)
 have c0 : (w.alloc (.cells #[.func (.func 111) #[] #[], .func (.func 112) #[] #[]] 171)).cell? ⟨w.heap.size, 0, none⟩ = some (.func (.func 111) #[] #[]) := by unfold World.cell?; rw [hF]; rfl
 have hD := Ad (w := w) (.cells #[.func (.func 111) #[] #[], .func (.func 112) #[] #[]] 171)
 have q1 := Ac hD hp
 have q2 := Ac hD hg
 have a0 : (0 : Int) ≤ (a : Int) := by omega
 have a1 : (a : Int) < (s.size : Int) := by omega
 clear hF hp hg
 go_enter Tryz.func85, Tryz.ntmps85
 go_wp2_with fail
 generalize w.alloc (.cells #[.func (.func 111) #[] #[], .func (.func 112) #[] #[]] 171) = W at *
 have hbd := (Below.refl W.heap.size W).drew
 go_region_held3 (fun w' => Below W.heap.size W w' ∧ w'.cell? ⟨w.heap.size, 0, none⟩ = some (.func (.func 111) #[] #[]) ∧ w'.cell? ⟨p, 0, none⟩ = some (.string s) ∧ w'.cell? ⟨g, 0, none⟩ = some (.int .i64 a))
  (first | (with_reducible exact ⟨hbd, Ac hbd c0, Ac hbd q1, Ac hbd q2⟩) | (have hS := ‹_ ∧ _›; with_reducible exact hS))
  ((go_at_call 111; refine (HC.out _).mono ?_; rintro e w7 ⟨rfl, rfl⟩))
 all_goals (go_wp2_with fail; go_ret; have hS := ‹_ ∧ _›; exact ⟨rfl, Aa hD hD.size hS.1⟩)
set_option maxHeartbeats 1000000 in
theorem St (s : ByteArray) (a p g : Nat) (w : World) (ha : a < s.size) (hs : s.size ≤ 1048576) (hp : w.cell? ⟨p, 0, none⟩ = some (.string s)) (hg : w.cell? ⟨g, 0, none⟩ = some (.int .i64 a)) :
  Calls Tryz.prog 85 #[.agg #[.func (.func 113) #[] #[], .func (.func 114) #[] #[]], .pointer (some ⟨p, 0, none⟩), .pointer (some ⟨g, 0, none⟩)] w fun e w' => e = .returned (.bool (Do s[a])) ∧ Below w.heap.size w w' := by
 obtain ⟨c, hc⟩ : ∃ c, s[a] = c := ⟨_, rfl⟩
 rw [hc]
 have HC := Lib.hid (fun w' : World => Ov c w')
 have hF := Ab w (.cells #[.func (.func 113) #[] #[], .func (.func 114) #[] #[]] 171)
 have c0 : (w.alloc (.cells #[.func (.func 113) #[] #[], .func (.func 114) #[] #[]] 171)).cell? ⟨w.heap.size, 0, none⟩ = some (.func (.func 113) #[] #[]) := by unfold World.cell?; rw [hF]; rfl
 have hD := Ad (w := w) (.cells #[.func (.func 113) #[] #[], .func (.func 114) #[] #[]] 171)
 have q1 := Ac hD hp
 have q2 := Ac hD hg
 have a0 : (0 : Int) ≤ (a : Int) := by omega
 have a1 : (a : Int) < (s.size : Int) := by omega
 clear hF hp hg
 go_enter Tryz.func85, Tryz.ntmps85
 go_wp2_with fail
 generalize w.alloc (.cells #[.func (.func 113) #[] #[], .func (.func 114) #[] #[]] 171) = W at *
 have hbd := (Below.refl W.heap.size W).drew
 go_region_held3 (fun w' => Below W.heap.size W w' ∧ w'.cell? ⟨w.heap.size, 0, none⟩ = some (.func (.func 113) #[] #[]) ∧ w'.cell? ⟨p, 0, none⟩ = some (.string s) ∧ w'.cell? ⟨g, 0, none⟩ = some (.int .i64 a))
  (first | (with_reducible exact ⟨hbd, Ac hbd c0, Ac hbd q1, Ac hbd q2⟩) | (have hS := ‹_ ∧ _›; with_reducible exact hS))
  ((go_at_call 113; refine (HC.out _).mono ?_; rintro e w7 ⟨rfl, rfl⟩))
 all_goals (go_wp2_with fail; go_ret; have hS := ‹_ ∧ _›; exact ⟨rfl, Aa hD hD.size hS.1⟩)
set_option maxHeartbeats 1000000 in
theorem Su (s : ByteArray) (a p g : Nat) (w : World) (ha : a < s.size) (hs : s.size ≤ 1048576) (hp : w.cell? ⟨p, 0, none⟩ = some (.string s)) (hg : w.cell? ⟨g, 0, none⟩ = some (.int .i64 a)) :
  Calls Tryz.prog 85 #[.agg #[.func (.func 115) #[] #[], .func (.func 116) #[] #[]], .pointer (some ⟨p, 0, none⟩), .pointer (some ⟨g, 0, none⟩)] w fun e w' => e = .returned (.bool (FJ s[a])) ∧ Below w.heap.size w w' := by
 obtain ⟨c, hc⟩ : ∃ c, s[a] = c := ⟨_, rfl⟩
 rw [hc]
 have HC := Lib.hid (fun w' : World => Q0 c w')
 have hF := Ab w (.cells #[.func (.func 115) #[] #[], .func (.func 116) #[] #[]] 171)
 have c0 : (w.alloc (.cells #[.func (.func 115) #[] #[], .func (.func 116) #[] #[]] 171)).cell? ⟨w.heap.size, 0, none⟩ = some (.func (.func 115) #[] #[]) := by unfold World.cell?; rw [hF]; rfl
 have hD := Ad (w := w) (.cells #[.func (.func 115) #[] #[], .func (.func 116) #[] #[]] 171)
 have q1 := Ac hD hp
 have q2 := Ac hD hg
 have a0 : (0 : Int) ≤ (a : Int) := by omega
 have a1 : (a : Int) < (s.size : Int) := by omega
 clear hF hp hg
 go_enter Tryz.func85, Tryz.ntmps85
 go_wp2_with fail
 generalize w.alloc (.cells #[.func (.func 115) #[] #[], .func (.func 116) #[] #[]] 171) = W at *
 have hbd := (Below.refl W.heap.size W).drew
 go_region_held3 (fun w' => Below W.heap.size W w' ∧ w'.cell? ⟨w.heap.size, 0, none⟩ = some (.func (.func 115) #[] #[]) ∧ w'.cell? ⟨p, 0, none⟩ = some (.string s) ∧ w'.cell? ⟨g, 0, none⟩ = some (.int .i64 a))
  (first | (with_reducible exact ⟨hbd, Ac hbd c0, Ac hbd q1, Ac hbd q2⟩) | (have hS := ‹_ ∧ _›; with_reducible exact hS))
  ((go_at_call 115; refine (HC.out _).mono ?_; rintro e w7 ⟨rfl, rfl⟩))
 all_goals (go_wp2_with fail; go_ret; have hS := ‹_ ∧ _›; exact ⟨rfl, Aa hD hD.size hS.1⟩)
def IOx (c : UInt8) : Nat → Bool
 | 0 => B2 c
 | 1 => Bb c
 | 2 => Do c
 | _ => FJ c
theorem Fu {c : UInt8} {i : Nat} (hi : i ≤ 3) (h0 : ∀ j, j < i → IOx c j = false) (h1 : IOx c i = true) : Cr c = i := by
 unfold Cr
 obtain rfl | rfl | rfl | rfl : i = 0 ∨ i = 1 ∨ i = 2 ∨ i = 3 := by omega
 · have : B2 c = true := h1
   rw [if_pos this]
 · have e0 : B2 c = false := h0 0 (by omega)
   have : Bb c = true := h1
   rw [if_neg (by simp [e0]), if_pos this]
 · have e0 : B2 c = false := h0 0 (by omega)
   have e1 : Bb c = false := h0 1 (by omega)
   have : Do c = true := h1
   rw [if_neg (by simp [e0]), if_neg (by simp [e1]), if_pos this]
 · have e0 : B2 c = false := h0 0 (by omega)
   have e1 : Bb c = false := h0 1 (by omega)
   have e2 : Do c = false := h0 2 (by omega)
   rw [if_neg (by simp [e0]), if_neg (by simp [e1]), if_neg (by simp [e2])]
set_option maxHeartbeats 2000000 in
theorem K8 (s : ByteArray) (a p g q : Nat) (w : World) (ha : a < s.size) (hs : s.size ≤ 1048576) (hp : w.cell? ⟨p, 0, none⟩ = some (.string s)) (hg : w.cell? ⟨g, 0, none⟩ = some (.int .i64 a)) (hq : Forms w q) :
  Calls Tryz.prog 84 #[.slice (some ⟨q, 0, none⟩) 4 4, .func (.func 85) #[] #[.pointer (some ⟨p, 0, none⟩), .pointer (some ⟨g, 0, none⟩)]] w fun e w' => e = .returned (.int .i64 (Cr s[a] : Nat)) ∧ Below w.heap.size w w' := by
 have HP := Lib.hid hp
 have HG := Lib.hid hg
 have HQ := Lib.hid hq
 obtain ⟨c, hc⟩ : ∃ c, s[a] = c := ⟨_, rfl⟩
 have HC := Lib.hid hc
 rw [hc]
 clear hp hg hq hc
 go_enter Tryz.func84, Tryz.ntmps84
 go_wp2
 go_loopw [8] (fun s8 wr => ∃ i : Nat, s8 = .int .i64 i ∧ i ≤ 3 ∧ Hid (∀ j, j < i → IOx c j = false) ∧ Below w.heap.size w wr) (fun s8 _ => 3 - (intOf s8).toNat)
 case atStart => exact ⟨0, rfl, by omega, Lib.hid (fun j hj => absurd hj (Nat.not_lt_zero _)), Below.refl _ _⟩
 case round =>
  obtain ⟨i, rfl, hi, HI, hx⟩ := hrel
  obtain ⟨f0, f1, f2, f3, f4, f5, f6, f7⟩ := HQ.out.keep hx
  have HX := Lib.hid hx
  clear hx
  obtain rfl | rfl | rfl | rfl : i = 0 ∨ i = 1 ∨ i = 2 ∨ i = 3 := by omega
  · have H := Lib.hid (Sr s a p g wr ha hs (Ac HX.out HP.out) (Ac HX.out HG.out))
    have H2 : Hid (Calls Tryz.prog 85 #[.agg #[.func (.func 109) #[] #[], .func (.func 110) #[] #[]], .pointer (some ⟨p, 0, none⟩), .pointer (some ⟨g, 0, none⟩)] wr fun e w' => e = .returned (.bool (B2 c)) ∧ Below wr.heap.size wr w') := Lib.hid (by have h := H.out; rw [HC.out] at h; exact h)
    clear H
    cases hb : B2 c with
    | true =>
      rw [hb] at H2
      have HR := Lib.hid (Fu (c := c) (i := 0) hi HI.out hb)
      clear hb
      go_wp2_with (go_at_call 85; refine (H2.out).mono ?_; rintro e w7 ⟨rfl, hb7⟩)
      go_ret
      exact ⟨Bc (by rw [HR.out]; rfl), Aa HX.out HX.out.size hb7⟩
    | false =>
      rw [hb] at H2
      have HR : Hid (∀ j, j < 1 → IOx c j = false) := Lib.hid (fun j hj => by
       rcases Nat.lt_or_ge j 0 with h | h
       · exact HI.out j h
       · have : j = 0 := by omega
         subst this; exact hb)
      clear hb
      go_wp2_with (go_at_call 85; refine (H2.out).mono ?_; rintro e w7 ⟨rfl, hb7⟩)
      go_roundw
      case rel => exact ⟨1, rfl, by omega, HR, Aa HX.out HX.out.size hb7⟩
      case measure => simp [intOf]
  · have H := Lib.hid (Ss s a p g wr ha hs (Ac HX.out HP.out) (Ac HX.out HG.out))
    have H2 : Hid (Calls Tryz.prog 85 #[.agg #[.func (.func 111) #[] #[], .func (.func 112) #[] #[]], .pointer (some ⟨p, 0, none⟩), .pointer (some ⟨g, 0, none⟩)] wr fun e w' => e = .returned (.bool (Bb c)) ∧ Below wr.heap.size wr w') := Lib.hid (by have h := H.out; rw [HC.out] at h; exact h)
    clear H
    cases hb : Bb c with
    | true =>
      rw [hb] at H2
      have HR := Lib.hid (Fu (c := c) (i := 1) hi HI.out hb)
      clear hb
      go_wp2_with (go_at_call 85; refine (H2.out).mono ?_; rintro e w7 ⟨rfl, hb7⟩)
      go_ret
      exact ⟨Bc (by rw [HR.out]; rfl), Aa HX.out HX.out.size hb7⟩
    | false =>
      rw [hb] at H2
      have HR : Hid (∀ j, j < 2 → IOx c j = false) := Lib.hid (fun j hj => by
       rcases Nat.lt_or_ge j 1 with h | h
       · exact HI.out j h
       · have : j = 1 := by omega
         subst this; exact hb)
      clear hb
      go_wp2_with (go_at_call 85; refine (H2.out).mono ?_; rintro e w7 ⟨rfl, hb7⟩)
      go_roundw
      case rel => exact ⟨2, rfl, by omega, HR, Aa HX.out HX.out.size hb7⟩
      case measure => simp [intOf]
  · have H := Lib.hid (St s a p g wr ha hs (Ac HX.out HP.out) (Ac HX.out HG.out))
    have H2 : Hid (Calls Tryz.prog 85 #[.agg #[.func (.func 113) #[] #[], .func (.func 114) #[] #[]], .pointer (some ⟨p, 0, none⟩), .pointer (some ⟨g, 0, none⟩)] wr fun e w' => e = .returned (.bool (Do c)) ∧ Below wr.heap.size wr w') := Lib.hid (by have h := H.out; rw [HC.out] at h; exact h)
    clear H
    cases hb : Do c with
    | true =>
      rw [hb] at H2
      have HR := Lib.hid (Fu (c := c) (i := 2) hi HI.out hb)
      clear hb
      go_wp2_with (go_at_call 85; refine (H2.out).mono ?_; rintro e w7 ⟨rfl, hb7⟩)
      go_ret
      exact ⟨Bc (by rw [HR.out]; rfl), Aa HX.out HX.out.size hb7⟩
    | false =>
      rw [hb] at H2
      have HR : Hid (∀ j, j < 3 → IOx c j = false) := Lib.hid (fun j hj => by
       rcases Nat.lt_or_ge j 2 with h | h
       · exact HI.out j h
       · have : j = 2 := by omega
         subst this; exact hb)
      clear hb
      go_wp2_with (go_at_call 85; refine (H2.out).mono ?_; rintro e w7 ⟨rfl, hb7⟩)
      go_roundw
      case rel => exact ⟨3, rfl, by omega, HR, Aa HX.out HX.out.size hb7⟩
      case measure => simp [intOf]
  · have H := Lib.hid (Su s a p g wr ha hs (Ac HX.out HP.out) (Ac HX.out HG.out))
    have H2 : Hid (Calls Tryz.prog 85 #[.agg #[.func (.func 115) #[] #[], .func (.func 116) #[] #[]], .pointer (some ⟨p, 0, none⟩), .pointer (some ⟨g, 0, none⟩)] wr fun e w' => e = .returned (.bool (FJ c)) ∧ Below wr.heap.size wr w') := Lib.hid (by have h := H.out; rw [HC.out] at h; exact h)
    clear H
    cases hb : FJ c with
    | true =>
      rw [hb] at H2
      have HR := Lib.hid (Fu (c := c) (i := 3) hi HI.out hb)
      clear hb
      go_wp2_with (go_at_call 85; refine (H2.out).mono ?_; rintro e w7 ⟨rfl, hb7⟩)
      go_ret
      exact ⟨Bc (by rw [HR.out]; rfl), Aa HX.out HX.out.size hb7⟩
    | false =>
      exact absurd hb (by simp [FJ])
end Go.Proofs.YtbemgcjckchdjaaGreatDoor
