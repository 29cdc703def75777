import Derived.Test.YtbemgcjckchdjaaGreatDoorRows
import Derived.Test.YtbemgcjckchdjaaGreatDoorLVj
import Derived.Deep.QuietTactic
import Derived.BigQuiet
import Derived.Test.YtbemgcjckchdjaaGreatDoorLVn
import Derived.Lib.ConvBytes
import Derived.Laws.IdiomStrings
import Derived.Test.YtbemgcjckchdjaaGreatDoorLVt
/- lex.letter, digit, run at each kind of byte. -/
namespace Go.Proofs.YtbemgcjckchdjaaGreatDoor
open Go.RowKit
set_option linter.unusedSimpArgs false
set_option linter.unusedVariables false
def orZ (c : UInt8) : Int := bits BinOp.or IntKind.u8 (c.toNat : Int) 32
def B2 (c : UInt8) : Bool := (decide (97 ≤ orZ c) && decide (orZ c ≤ 122)) || ((c.toNat : Int) == 95)
def Bb (c : UInt8) : Bool := decide (48 ≤ (c.toNat : Int)) && decide ((c.toNat : Int) ≤ 57)
theorem DU (c : UInt8) (w : World) : Calls Tryz.prog 109 #[.int .u8 c.toNat] w fun e w' => e = .returned (.bool (B2 c)) ∧ w = w' := by
 have e : B2 c = ((decide (97 ≤ bits BinOp.or IntKind.u8 (c.toNat : Int) 32) && decide (bits BinOp.or IntKind.u8 (c.toNat : Int) 32 ≤ 122)) || ((c.toNat : Int) == 95)) := rfl
 rw [e]
 cases h1 : decide (97 ≤ bits BinOp.or IntKind.u8 (c.toNat : Int) 32) with
 | false =>
   clear e
   go_enter Tryz.func109, Tryz.ntmps109
   go_wp2
   go_ret
   exact ⟨by simp, rfl⟩
 | true =>
 cases h2 : decide (bits BinOp.or IntKind.u8 (c.toNat : Int) 32 ≤ 122) with
 | false =>
   clear e
   go_enter Tryz.func109, Tryz.ntmps109
   go_wp2
   go_ret
   exact ⟨by simp, rfl⟩
 | true =>
   clear e
   go_enter Tryz.func109, Tryz.ntmps109
   go_wp2
   go_ret
   exact ⟨by simp, rfl⟩
theorem Ge (c : UInt8) (w : World) : Calls Tryz.prog 111 #[.int .u8 c.toNat] w fun e w' => e = .returned (.bool (Bb c)) ∧ w = w' := by
 unfold Bb
 cases h1 : decide (48 ≤ (c.toNat : Int)) with
 | false =>
   go_enter Tryz.func111, Tryz.ntmps111
   go_wp2
   go_ret
   exact ⟨by simp, rfl⟩
 | true =>
   go_enter Tryz.func111, Tryz.ntmps111
   go_wp2
   go_ret
   exact ⟨by simp, rfl⟩
def BD (c : UInt8) : Bool := B2 c || Bb c
theorem Lw (c : UInt8) (w : World) : Calls Tryz.prog 136 #[.int .u8 c.toNat] w fun e w' => e = .returned (.bool (BD c)) ∧ w = w' := by
 unfold BD
 have H1 := Lib.hid (DU c)
 have H2 := Lib.hid (Ge c)
 cases h1 : B2 c with
 | false =>
   rw [h1] at H1
   go_enter Tryz.func136, Tryz.ntmps136
   go_wp2_with (first | (go_at_call 109; refine (H1.out _).mono ?_; rintro e w1 ⟨rfl, rfl⟩) | (go_at_call 111; refine (H2.out _).mono ?_; rintro e w1 ⟨rfl, rfl⟩))
   go_ret
   exact ⟨by simp, rfl⟩
 | true =>
   rw [h1] at H1
   go_enter Tryz.func136, Tryz.ntmps136
   go_wp2_with (first | (go_at_call 109; refine (H1.out _).mono ?_; rintro e w1 ⟨rfl, rfl⟩) | (go_at_call 111; refine (H2.out _).mono ?_; rintro e w1 ⟨rfl, rfl⟩))
   go_ret
   exact ⟨by simp, rfl⟩
def AY (c : UInt8) : Bool := (((c.toNat : Int) == 32) || ((c.toNat : Int) == 9)) || (((c.toNat : Int) == 10) || ((c.toNat : Int) == 13))
theorem OB (c : UInt8) (w : World) : Calls Tryz.prog 83 #[.int .u8 c.toNat] w fun e w' => e = .returned (.bool (AY c)) ∧ w = w' := by
 unfold AY
 cases h1 : ((c.toNat : Int) == 32) <;> cases h2 : ((c.toNat : Int) == 9) <;> cases h3 : ((c.toNat : Int) == 10)
 all_goals
  go_enter Tryz.func83, Tryz.ntmps83
  go_wp2
  go_ret
  exact ⟨by simp, rfl⟩
def AA (p : UInt8 → Bool) : List UInt8 → Nat
 | [] => 0
 | c :: r => if p c then AA p r + 1 else 0
theorem GE (p : UInt8 → Bool) : ∀ l, AA p l ≤ l.length
 | [] => Nat.le_refl _
 | c :: r => by unfold AA; have := GE p r; split <;> simp <;> omega
theorem Gs (p : UInt8 → Bool) (s : ByteArray) (i : Nat) (h : i < s.size) : AA p (s.data.toList.drop i) = if p s[i] then AA p (s.data.toList.drop (i + 1)) + 1 else 0 := by
 rw [List.drop_eq_getElem_cons (by simpa using h), AA]
 rfl
set_option maxHeartbeats 400000 in
theorem Qf (s : ByteArray) (w : World) (hs : s.size ≤ 1073741824) : Calls Tryz.prog 82 #[.string s, .func (.func 136) #[] #[]] w fun e w' => e = .returned (.int .i64 (AA BD s.data.toList)) ∧ w = w' := by
 obtain ⟨r, hr⟩ : ∃ r, AA BD s.data.toList = r := ⟨_, rfl⟩
 rw [hr]
 have HR := Lib.hid hr
 clear hr
 go_enter Tryz.func82, Tryz.ntmps82
 go_wp2
 go_loop [5] (fun s5 => ∃ i : Nat, s5 = .int .i64 i ∧ i ≤ s.size ∧ Hid (i + AA BD (s.data.toList.drop i) = r)) (fun s5 => s.size - (intOf s5).toNat)
 case atStart => exact ⟨0, rfl, Nat.zero_le _, Lib.hid (by rw [Nat.zero_add]; exact HR.out)⟩
 case round =>
  obtain ⟨i, rfl, hil, HD⟩ := hrel
  by_cases hlt : i < s.size
  · have hd := HD.out
    rw [Gs BD s i hlt] at hd
    obtain ⟨c, hc⟩ : ∃ c, s[i] = c := ⟨_, rfl⟩
    rw [hc] at hd
    have HC := Lib.hid (Lw c w)
    cases hp : BD c with
    | true =>
      rw [hp] at HC
      rw [hp, if_pos rfl] at hd
      have HDD := Lib.hid hd
      clear hd hp HD HR
      go_wp2_with (go_at_call 136; refine (HC.out).mono ?_; rintro e w1 ⟨rfl, rfl⟩)
      go_round
      case rel => exact ⟨i + 1, by go_num, by omega, Lib.hid (by have := HDD.out; omega)⟩
      case measure => simp [intOf]; omega
    | false =>
      rw [hp] at HC
      rw [hp, if_neg (by simp)] at hd
      have HDD := Lib.hid hd
      clear hd hp HD HR
      go_wp2_with (go_at_call 136; refine (HC.out).mono ?_; rintro e w1 ⟨rfl, rfl⟩)
      go_ret
      exact ⟨Bc (by have := HDD.out; omega), rfl⟩
  · have he := HD.out
    rw [List.drop_of_length_le (by simp; omega), AA] at he
    have HE := Lib.hid he
    clear he HD HR
    go_wp2
    go_ret
    exact ⟨Bc (by have := HE.out; omega), rfl⟩
set_option maxHeartbeats 400000 in
theorem Ox (s : ByteArray) (w : World) (hs : s.size ≤ 1073741824) : Calls Tryz.prog 82 #[.string s, .func (.func 111) #[] #[]] w fun e w' => e = .returned (.int .i64 (AA Bb s.data.toList)) ∧ w = w' := by
 obtain ⟨r, hr⟩ : ∃ r, AA Bb s.data.toList = r := ⟨_, rfl⟩
 rw [hr]
 have HR := Lib.hid hr
 clear hr
 go_enter Tryz.func82, Tryz.ntmps82
 go_wp2
 go_loop [5] (fun s5 => ∃ i : Nat, s5 = .int .i64 i ∧ i ≤ s.size ∧ Hid (i + AA Bb (s.data.toList.drop i) = r)) (fun s5 => s.size - (intOf s5).toNat)
 case atStart => exact ⟨0, rfl, Nat.zero_le _, Lib.hid (by rw [Nat.zero_add]; exact HR.out)⟩
 case round =>
  obtain ⟨i, rfl, hil, HD⟩ := hrel
  by_cases hlt : i < s.size
  · have hd := HD.out
    rw [Gs Bb s i hlt] at hd
    obtain ⟨c, hc⟩ : ∃ c, s[i] = c := ⟨_, rfl⟩
    rw [hc] at hd
    have HC := Lib.hid (Ge c w)
    cases hp : Bb c with
    | true =>
      rw [hp] at HC
      rw [hp, if_pos rfl] at hd
      have HDD := Lib.hid hd
      clear hd hp HD HR
      go_wp2_with (go_at_call 111; refine (HC.out).mono ?_; rintro e w1 ⟨rfl, rfl⟩)
      go_round
      case rel => exact ⟨i + 1, by go_num, by omega, Lib.hid (by have := HDD.out; omega)⟩
      case measure => simp [intOf]; omega
    | false =>
      rw [hp] at HC
      rw [hp, if_neg (by simp)] at hd
      have HDD := Lib.hid hd
      clear hd hp HD HR
      go_wp2_with (go_at_call 111; refine (HC.out).mono ?_; rintro e w1 ⟨rfl, rfl⟩)
      go_ret
      exact ⟨Bc (by have := HDD.out; omega), rfl⟩
  · have he := HD.out
    rw [List.drop_of_length_le (by simp; omega), AA] at he
    have HE := Lib.hid he
    clear he HD HR
    go_wp2
    go_ret
    exact ⟨Bc (by have := HE.out; omega), rfl⟩
set_option maxHeartbeats 400000 in
theorem Oz (s : ByteArray) (w : World) (hs : s.size ≤ 1073741824) : Calls Tryz.prog 82 #[.string s, .func (.func 83) #[] #[]] w fun e w' => e = .returned (.int .i64 (AA AY s.data.toList)) ∧ w = w' := by
 obtain ⟨r, hr⟩ : ∃ r, AA AY s.data.toList = r := ⟨_, rfl⟩
 rw [hr]
 have HR := Lib.hid hr
 clear hr
 go_enter Tryz.func82, Tryz.ntmps82
 go_wp2
 go_loop [5] (fun s5 => ∃ i : Nat, s5 = .int .i64 i ∧ i ≤ s.size ∧ Hid (i + AA AY (s.data.toList.drop i) = r)) (fun s5 => s.size - (intOf s5).toNat)
 case atStart => exact ⟨0, rfl, Nat.zero_le _, Lib.hid (by rw [Nat.zero_add]; exact HR.out)⟩
 case round =>
  obtain ⟨i, rfl, hil, HD⟩ := hrel
  by_cases hlt : i < s.size
  · have hd := HD.out
    rw [Gs AY s i hlt] at hd
    obtain ⟨c, hc⟩ : ∃ c, s[i] = c := ⟨_, rfl⟩
    rw [hc] at hd
    have HC := Lib.hid (OB c w)
    cases hp : AY c with
    | true =>
      rw [hp] at HC
      rw [hp, if_pos rfl] at hd
      have HDD := Lib.hid hd
      clear hd hp HD HR
      go_wp2_with (go_at_call 83; refine (HC.out).mono ?_; rintro e w1 ⟨rfl, rfl⟩)
      go_round
      case rel => exact ⟨i + 1, by go_num, by omega, Lib.hid (by have := HDD.out; omega)⟩
      case measure => simp [intOf]; omega
    | false =>
      rw [hp] at HC
      rw [hp, if_neg (by simp)] at hd
      have HDD := Lib.hid hd
      clear hd hp HD HR
      go_wp2_with (go_at_call 83; refine (HC.out).mono ?_; rintro e w1 ⟨rfl, rfl⟩)
      go_ret
      exact ⟨Bc (by have := HDD.out; omega), rfl⟩
  · have he := HD.out
    rw [List.drop_of_length_le (by simp; omega), AA] at he
    have HE := Lib.hid he
    clear he HD HR
    go_wp2
    go_ret
    exact ⟨Bc (by have := HE.out; omega), rfl⟩
/- lex.great, keywords, Keyword. -/
def upB (c : UInt8) : UInt8 := if 97 ≤ c.toNat ∧ c.toNat ≤ 122 then c &&& 223 else c
theorem N7 (c : UInt8) : bits BinOp.andNot IntKind.u8 (c.toNat : Int) 32 = ((c &&& 223).toNat : Int) := by
 have h : ∀ n : Fin 256, bits BinOp.andNot IntKind.u8 ((UInt8.ofNat n.val).toNat : Int) 32 = (((UInt8.ofNat n.val) &&& 223).toNat : Int) := by decide +kernel
 have := h ⟨c.toNat, c.toNat_lt⟩
 simpa using this
def DC (s : ByteArray) : ByteArray := ⟨(s.data.toList.map upB).toArray⟩
def Gq (s : ByteArray) (i j : Nat) : UInt8 := if j < i then upB (s.data.toList.getD j 0) else s.data.toList.getD j 0
theorem Sv (s : ByteArray) (j : Nat) : Gq s 0 j = s.data.toList.getD j 0 := if_neg (Nat.not_lt_zero _)
theorem Jb (s : ByteArray) (i j : Nat) (h : j < i) : Gq s i j = upB (s.data.toList.getD j 0) := if_pos h
theorem Mo (s : ByteArray) (i j : Nat) (h : i ≤ j) : Gq s i j = s.data.toList.getD j 0 := if_neg (by omega)
theorem Mp (s : ByteArray) (i j : Nat) (h : j ≠ i) : Gq s i j = Gq s (i + 1) j := by
 unfold Gq
 by_cases h1 : j < i
 · rw [if_pos h1, if_pos (by omega)]
 · rw [if_neg h1, if_neg (by omega)]
theorem M3 (w : World) (e : TypeId) (s : ByteArray) (j : Nat) (hj : j < s.size) : (Lib.bytesWorld w e s).frozen? ⟨w.heap.size, j, none⟩ = false := by
 have h := Lib.bytesWorld_at_new w e s
 have h2 : s.size ≤ (Lib.bytesCells w e s).size := by simp [Lib.bytesCells]
 unfold World.frozen?
 rw [h]
 simp
 omega
set_option maxHeartbeats 1000000 in
theorem J2 (s : ByteArray) (w : World) (hs : s.size ≤ 1073741824) : Calls Tryz.prog 138 #[.string s] w fun e w' => e = .returned (.string (DC s)) ∧ Below w.heap.size w w' := by
 have hk := Lib.run_convert_string_bytes (P := Tryz.prog) w 9 198 5 s Tryz.underlying9 Tryz.underlying198 Tryz.underlying5
 have hcell : ∀ j, j < s.size → (Lib.bytesWorld w 5 s).cell? ⟨w.heap.size, j, none⟩ = some (.int .u8 (s.data.toList.getD j 0).toNat) := fun j hj => Lib.bytesWorld_cell w 5 s j hj
 have hfree : ∀ j, j < s.size → (Lib.bytesWorld w 5 s).frozen? ⟨w.heap.size, j, none⟩ = false := fun j hj => M3 w 5 s j hj
 have hD := D6 w 5 s
 have hsz := Lib.bytesWorld_size w 5 s
 generalize Lib.bytesWorld w 5 s = W at *
 generalize grownCap w s.size 0 5 = cap at *
 have HCE := Lib.hid hcell
 have HFR := Lib.hid hfree
 have HSZ := Lib.hid hsz
 clear hcell hfree hsz
 go_enter Tryz.func138, Tryz.ntmps138
 go_wp2_with fail
 go_loopw [10] (fun s10 wr => ∃ i : Nat, s10 = .int .i64 i ∧ i ≤ s.size ∧ Hid (∀ j, j < s.size → wr.cell? ⟨w.heap.size, j, none⟩ = some (.int .u8 (Gq s i j).toNat)) ∧ Hid (∀ j, j < s.size → wr.frozen? ⟨w.heap.size, j, none⟩ = false) ∧ Below w.heap.size w wr) (fun s10 _ => s.size - (intOf s10).toNat)
 case atStart => exact ⟨0, rfl, Nat.zero_le _, Lib.hid (fun j hj => by rw [Sv]; exact HCE.out j hj), HFR, hD⟩
 case round =>
  clear HCE HFR hD HSZ
  obtain ⟨i, rfl, hil, HC, HF, hx⟩ := hrel
  by_cases hlt : i < s.size
  · have hc := HC.out i hlt
    have hf := HF.out i hlt
    rw [Mo s i i (Nat.le_refl _)] at hc
    obtain ⟨c, hcc⟩ : ∃ c, s.data.toList.getD i 0 = c := ⟨_, rfl⟩
    rw [hcc] at hc
    have HCC := Lib.hid hcc
    clear hcc
    have hnn : (0 : Int) ≤ (c.toNat : Int) := by omega
    have hn255 : (c.toNat : Int) < 256 := by have := c.toNat_lt; omega
    by_cases hup : 97 ≤ (c.toNat : Int) ∧ (c.toNat : Int) ≤ 122
    · obtain ⟨u1, u2⟩ := hup
      have d1 : decide (97 ≤ (c.toNat : Int)) = true := by simpa using u1
      have d2 : decide ((c.toNat : Int) ≤ 122) = true := by simpa using u2
      have HB : Hid (bits BinOp.andNot IntKind.u8 (c.toNat : Int) 32 = ((upB c).toNat : Int)) := Lib.hid (by rw [N7]; unfold upB; rw [if_pos (by omega)])
      have HX := Lib.hid hx
      clear hx
      go_wp2_with fail
      go_roundw
      case rel =>
        refine ⟨i + 1, by go_num, by omega, Lib.hid (fun j hj => ?_), Lib.hid (fun j hj => by rw [World.frozen?_setCell]; exact HF.out j hj), HX.out.setCell (p := ⟨w.heap.size, i, none⟩) (Nat.le_refl _) _⟩
        by_cases hji : j = i
        · subst hji
          rw [World.cell?_setCell_same _ _ _ (HC.out j hj), HB.out, Jb s (j + 1) j (by omega), HCC.out]
        · rw [World.cell?_setCell_other _ _ _ _ (fun e => hji (by cases e; rfl)), HC.out j hj, Mp s i j hji]
      case measure => simp [intOf]; omega
    · have HU : Hid (upB c = c) := Lib.hid (by unfold upB; rw [if_neg (by omega)])
      have HX := Lib.hid hx
      have hrel : ∃ i' : Nat, i' = i + 1 ∧ i' ≤ s.size ∧ (∀ j, j < s.size → wr.cell? ⟨w.heap.size, j, none⟩ = some (.int .u8 (Gq s i' j).toNat)) := ⟨i + 1, rfl, by omega, fun j hj => by
        rw [HC.out j hj]
        by_cases hji : j = i
        · subst hji
          rw [Mo s j j (Nat.le_refl _), Jb s (j + 1) j (by omega), HCC.out, HU.out]
        · rw [Mp s i j hji]⟩
      have HREL := Lib.hid hrel
      clear hx hrel
      by_cases u1 : 97 ≤ (c.toNat : Int)
      · have d1 : decide (97 ≤ (c.toNat : Int)) = true := by simpa using u1
        have d2 : decide ((c.toNat : Int) ≤ 122) = false := by simp; omega
        clear hup
        go_wp2_with fail
        go_roundw
        case rel =>
          obtain ⟨i', h1, h2, h3⟩ := HREL.out
          exact ⟨i + 1, by go_num, by omega, Lib.hid (by rw [← h1]; exact h3), HF, HX.out⟩
        case measure => simp [intOf]; omega
      · have d1 : decide (97 ≤ (c.toNat : Int)) = false := by simpa using u1
        clear hup
        go_wp2_with fail
        go_roundw
        case rel =>
          obtain ⟨i', h1, h2, h3⟩ := HREL.out
          exact ⟨i + 1, by go_num, by omega, Lib.hid (by rw [← h1]; exact h3), HF, HX.out⟩
        case measure => simp [intOf]; omega
  · have hie : i = s.size := by omega
    have hconv : (convert 198 9 (.slice (some ⟨w.heap.size, 0, none⟩) s.size cap)).run Tryz.prog wr = .ok (.string (DC s)) wr := by
      have h := run_convert_bytes_back (P := Tryz.prog) wr 198 9 5 ⟨w.heap.size, 0, none⟩ cap (s.data.toList.map upB) Tryz.underlying198 Tryz.underlying5 Tryz.underlying9 (fun j hj => by
        have hj' : j < s.size := by simpa using hj
        rw [AS, Nat.zero_add, HC.out j hj', hie, Jb s s.size j hj']
        simp [List.getD, hj'])
      have hlen : (s.data.toList.map upB).length = s.size := by simp
      rw [hlen] at h
      exact h
    have HX := Lib.hid hx
    clear hx hie HC HF
    go_wp2_with fail
    go_ret
    exact ⟨rfl, HX.out⟩
/- lex.keywords, slices.BinarySearch Cp them, lex.Keyword. -/
def kws : List ByteArray := [⟨#[65, 76, 76]⟩, ⟨#[65, 78, 68]⟩, ⟨#[65, 83]⟩, ⟨#[66, 89]⟩, ⟨#[67, 82, 69, 65, 84, 69]⟩, ⟨#[68, 69, 76, 69, 84, 69]⟩, ⟨#[68, 69, 83, 67]⟩, ⟨#[70, 65, 76, 83, 69]⟩, ⟨#[70, 82, 79, 77]⟩, ⟨#[72, 73, 83, 84, 79, 82, 89]⟩, ⟨#[73, 78]⟩, ⟨#[73, 78, 68, 69, 88]⟩, ⟨#[73, 78, 83, 69, 82, 84]⟩, ⟨#[73, 78, 84, 79]⟩, ⟨#[73, 83]⟩, ⟨#[78, 79, 84]⟩, ⟨#[78, 85, 76, 76]⟩, ⟨#[79, 78]⟩, ⟨#[79, 82]⟩, ⟨#[79, 82, 68, 69, 82]⟩, ⟨#[83, 69, 76, 69, 67, 84]⟩, ⟨#[83, 69, 84]⟩, ⟨#[84, 65, 66, 76, 69]⟩, ⟨#[84, 82, 85, 69]⟩, ⟨#[85, 80, 68, 65, 84, 69]⟩, ⟨#[87, 72, 69, 82, 69]⟩]
def kw (i : Nat) : ByteArray := kws.getD i ⟨#[]⟩
def bsN (x : ByteArray) : Nat → Nat → Nat → Nat
 | 0, i, _ => i
 | f + 1, i, j => if i < j then (if Op.bytesLess (kw ((i + j) / 2)).toList x.toList then bsN x f ((i + j) / 2 + 1) j else bsN x f i ((i + j) / 2)) else i
theorem Kx (x : ByteArray) : ∀ f i j, i ≤ j → bsN x f i j ≤ j
 | 0, i, j, h => h
 | f + 1, i, j, h => by
   unfold bsN
   split
   · split
     · exact Kx x f _ _ (by omega)
     · exact Nat.le_trans (Kx x f _ _ (by omega)) (by omega)
   · exact h
def KN (x : ByteArray) : Nat := bsN x 27 0 26
def Ht (x : ByteArray) : Bool := decide (KN x < 26) && ((kw (KN x)).toList == x.toList)
theorem KO (w : World) : Calls Tryz.prog 165 #[] w fun e w' => ∃ g, e = .returned (.slice (some ⟨g, 0, none⟩) 26 26) ∧ (∀ i, i < 26 → w'.cell? ⟨g, i, none⟩ = some (.string (kw i))) ∧ Below w.heap.size w w' := by
 have h := Ab w (.cells #[.string ⟨#[65, 76, 76]⟩, .string ⟨#[65, 78, 68]⟩, .string ⟨#[65, 83]⟩, .string ⟨#[66, 89]⟩, .string ⟨#[67, 82, 69, 65, 84, 69]⟩, .string ⟨#[68, 69, 76, 69, 84, 69]⟩, .string ⟨#[68, 69, 83, 67]⟩, .string ⟨#[70, 65, 76, 83, 69]⟩, .string ⟨#[70, 82, 79, 77]⟩, .string ⟨#[72, 73, 83, 84, 79, 82, 89]⟩, .string ⟨#[73, 78]⟩, .string ⟨#[73, 78, 68, 69, 88]⟩, .string ⟨#[73, 78, 83, 69, 82, 84]⟩, .string ⟨#[73, 78, 84, 79]⟩, .string ⟨#[73, 83]⟩, .string ⟨#[78, 79, 84]⟩, .string ⟨#[78, 85, 76, 76]⟩, .string ⟨#[79, 78]⟩, .string ⟨#[79, 82]⟩, .string ⟨#[79, 82, 68, 69, 82]⟩, .string ⟨#[83, 69, 76, 69, 67, 84]⟩, .string ⟨#[83, 69, 84]⟩, .string ⟨#[84, 65, 66, 76, 69]⟩, .string ⟨#[84, 82, 85, 69]⟩, .string ⟨#[85, 80, 68, 65, 84, 69]⟩, .string ⟨#[87, 72, 69, 82, 69]⟩] 9)
 have hc : ∀ i, i < 26 → (w.alloc (.cells #[.string ⟨#[65, 76, 76]⟩, .string ⟨#[65, 78, 68]⟩, .string ⟨#[65, 83]⟩, .string ⟨#[66, 89]⟩, .string ⟨#[67, 82, 69, 65, 84, 69]⟩, .string ⟨#[68, 69, 76, 69, 84, 69]⟩, .string ⟨#[68, 69, 83, 67]⟩, .string ⟨#[70, 65, 76, 83, 69]⟩, .string ⟨#[70, 82, 79, 77]⟩, .string ⟨#[72, 73, 83, 84, 79, 82, 89]⟩, .string ⟨#[73, 78]⟩, .string ⟨#[73, 78, 68, 69, 88]⟩, .string ⟨#[73, 78, 83, 69, 82, 84]⟩, .string ⟨#[73, 78, 84, 79]⟩, .string ⟨#[73, 83]⟩, .string ⟨#[78, 79, 84]⟩, .string ⟨#[78, 85, 76, 76]⟩, .string ⟨#[79, 78]⟩, .string ⟨#[79, 82]⟩, .string ⟨#[79, 82, 68, 69, 82]⟩, .string ⟨#[83, 69, 76, 69, 67, 84]⟩, .string ⟨#[83, 69, 84]⟩, .string ⟨#[84, 65, 66, 76, 69]⟩, .string ⟨#[84, 82, 85, 69]⟩, .string ⟨#[85, 80, 68, 65, 84, 69]⟩, .string ⟨#[87, 72, 69, 82, 69]⟩] 9)).cell? ⟨w.heap.size, i, none⟩ = some (.string (kw i)) := by
  intro i hi
  unfold World.cell?
  rw [h]
  obtain rfl | rfl | rfl | rfl | rfl | rfl | rfl | rfl | rfl | rfl | rfl | rfl | rfl | rfl | rfl | rfl | rfl | rfl | rfl | rfl | rfl | rfl | rfl | rfl | rfl | rfl : i = 0 ∨ i = 1 ∨ i = 2 ∨ i = 3 ∨ i = 4 ∨ i = 5 ∨ i = 6 ∨ i = 7 ∨ i = 8 ∨ i = 9 ∨ i = 10 ∨ i = 11 ∨ i = 12 ∨ i = 13 ∨ i = 14 ∨ i = 15 ∨ i = 16 ∨ i = 17 ∨ i = 18 ∨ i = 19 ∨ i = 20 ∨ i = 21 ∨ i = 22 ∨ i = 23 ∨ i = 24 ∨ i = 25 := by omega
  all_goals rfl
 have HC := Lib.hid hc
 clear h hc
 go_enter Tryz.func165, Tryz.ntmps165
 go_wp2
 go_ret
 exact ⟨w.heap.size, rfl, HC.out, (Below.refl _ _).alloc (Nat.le_refl _) _⟩
theorem QH (a : ByteArray) (w : World) : Calls Tryz.prog 179 #[.string a] w fun e w' => e = .returned (.bool false) ∧ w = w' := by
 go_enter Tryz.func179, Tryz.ntmps179
 go_wp2
 go_ret
 exact ⟨by simp, rfl⟩
theorem P7 (a b : ByteArray) (w : World) : Calls Tryz.prog 178 #[.string a, .string b] w fun e w' => e = .returned (.bool (Op.bytesLess a.toList b.toList)) ∧ w = w' := by
 go_enter Tryz.func178, Tryz.ntmps178
 go_wp2_with (go_at_call 184; refine (MR _ _).mono ?_; rintro e w1 ⟨rfl, rfl⟩)
 go_ret
 exact ⟨by simp, rfl⟩
set_option maxHeartbeats 1000000 in
theorem Nh (x : ByteArray) (g : Nat) (w : World) (hc : ∀ i, i < 26 → w.cell? ⟨g, i, none⟩ = some (.string (kw i))) :
  Calls Tryz.prog 164 #[.slice (some ⟨g, 0, none⟩) 26 26, .string x] w fun e w' => e = .returned (.tuple #[.int .i64 (KN x), .bool (Ht x)]) ∧ w = w' := by
 obtain ⟨r, hr⟩ : ∃ r, KN x = r := ⟨_, rfl⟩
 obtain ⟨z, hz⟩ : ∃ z, Ht x = z := ⟨_, rfl⟩
 rw [hr, hz]
 unfold Ht at hz
 rw [hr] at hz
 have hr26 : r ≤ 26 := by rw [← hr]; exact Kx x 27 0 26 (by omega)
 have HC := Lib.hid hc
 have HR := Lib.hid hr
 have HZ := Lib.hid hz
 clear hc hr hz
 go_enter Tryz.func164, Tryz.ntmps164
 go_wp2
 go_loop [7, 8] (fun s7 s8 => ∃ i j f : Nat, s7 = .int .i64 i ∧ s8 = .int .i64 j ∧ i ≤ j ∧ j ≤ 26 ∧ j - i < f ∧ Hid (bsN x f i j = r)) (fun s7 s8 => (intOf s8 - intOf s7).toNat)
 case atStart => exact ⟨0, 26, 27, rfl, rfl, by omega, by omega, by omega, HR⟩
 case round =>
  obtain ⟨i, j, f, rfl, rfl, hij, hj, hf, HB⟩ := hrel
  obtain ⟨f, rfl⟩ : ∃ m, f = m + 1 := ⟨f - 1, by omega⟩
  have hb := HB.out
  rw [bsN] at hb
  by_cases hlt : i < j
  · rw [if_pos hlt] at hb
    have hcell := HC.out ((i + j) / 2) (by omega)
    obtain ⟨m, hm⟩ : ∃ m, (i + j) / 2 = m := ⟨_, rfl⟩
    rw [hm] at hb hcell
    have hm1 : i ≤ m := by omega
    have hm2 : m < j := by omega
    have hM : ((i : Int) + (j : Int)) / 2 = (m : Int) := by omega
    have hm26 : m < 26 := by omega
    clear hm
    obtain ⟨s, hs⟩ : ∃ s, kw m = s := ⟨_, rfl⟩
    rw [hs] at hb hcell
    have HL := Lib.hid (P7 s x w)
    have HBB := Lib.hid hb
    clear hs hb HB HC HR
    cases hcmp : Op.bytesLess s.toList x.toList with
    | true =>
      rw [hcmp] at HL HBB
      rw [if_pos rfl] at HBB
      clear hcmp
      go_wp2_with (go_at_call 178; refine (HL.out).mono ?_; rintro e w1 ⟨rfl, rfl⟩)
      go_round
      case rel => exact ⟨m + 1, j, f, by go_num, rfl, by omega, hj, by omega, HBB⟩
      case measure => simp [intOf]; omega
    | false =>
      rw [hcmp] at HL HBB
      rw [if_neg (by simp)] at HBB
      clear hcmp
      go_wp2_with (go_at_call 178; refine (HL.out).mono ?_; rintro e w1 ⟨rfl, rfl⟩)
      go_round
      case rel => exact ⟨i, m, f, rfl, rfl, hm1, by omega, by omega, HBB⟩
      case measure => simp [intOf]; omega
  · rw [if_neg hlt] at hb
    subst hb
    have hij2 : i = j := by omega
    have HZ2 := Lib.hid HZ.out
    clear hij2 HB HR
    by_cases h26 : i < 26
    · have hcell := HC.out i h26
      have hz2 := HZ.out
      rw [show decide (i < 26) = true by simpa using h26, Bool.true_and] at hz2
      obtain ⟨s, hs⟩ : ∃ s, kw i = s := ⟨_, rfl⟩
      rw [hs] at hcell hz2
      clear hs HZ HZ2 HC
      cases hq : (s.toList == x.toList) with
      | true =>
        rw [hq] at hz2
        subst hz2
        go_wp2_with (go_at_call 179; refine (QH _ _).mono ?_; rintro e w1 ⟨rfl, rfl⟩)
        go_ret2
        exact ⟨rfl, rfl⟩
      | false =>
        rw [hq] at hz2
        subst hz2
        go_wp2_with (go_at_call 179; refine (QH _ _).mono ?_; rintro e w1 ⟨rfl, rfl⟩)
        go_ret2
        exact ⟨rfl, rfl⟩
    · have hz2 := HZ.out
      rw [show decide (i < 26) = false by simpa using h26, Bool.false_and] at hz2
      subst hz2
      clear HZ HZ2 HC
      go_wp2
      go_ret2
      exact ⟨rfl, rfl⟩
set_option maxHeartbeats 1000000 in
theorem Lz (s : ByteArray) (w : World) (hs : s.size ≤ 1073741824) : Calls Tryz.prog 137 #[.string s] w fun e w' => e = .returned (.bool (Ht (DC s))) ∧ Below w.heap.size w w' := by
 have HG := Lib.hid (fun w' => J2 s w' hs)
 have HS := Lib.hid (fun (g : Nat) (w' : World) h => Nh (DC s) g w' h)
 generalize DC s = x at *
 generalize Ht x = z at *
 generalize KN x = y at *
 go_enter Tryz.func137, Tryz.ntmps137
 go_wp2_with (first | (go_at_call 165; refine (KO _).mono ?_; rintro e w1 ⟨g, rfl, hc, hb⟩; have HC := Lib.hid hc; clear hc) | (go_at_call 138; refine (HG.out _).mono ?_; rintro e w2 ⟨rfl, hb2⟩) | (go_at_call 164; refine (HS.out _ _ (fun i hi => Ac hb2 (HC.out i hi))).mono ?_; rintro e w3 ⟨rfl, rfl⟩))
 go_ret
 exact ⟨rfl, Aa hb hb.size hb2⟩
end Go.Proofs.YtbemgcjckchdjaaGreatDoor
