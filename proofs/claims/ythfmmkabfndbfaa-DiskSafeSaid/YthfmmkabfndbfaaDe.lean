/- What Do and Crash come to, as functions; both the program's and the reference's come to these. -/
import Derived.Test.YthfmmkabfndbfaaDd
namespace Go.Proofs.Ythfmmkabfndbfaa
open Go.RowKit
set_option linter.unusedSimpArgs false
set_option linter.unusedVariables false

def dec (fu : Int) : Int := if 0 < fu then fu - 1 else fu
def Dk.zero : Dk := ⟨⟨#[]⟩, 0, 0, false, 0⟩

/-- Do: the disk and the error -/
def doR (d : Dk) (k : Int) (sd : ByteArray) (sz : Int) : Dk × Int :=
  if okB d.da d.sy d.ca = false then (Dk.zero, 6)
  else if k = 0 ∨ 4 ≤ k then (d, 5)
  else if d.dn = true then (d, 12)
  else if k = 1 then
    if d.ca - (d.da.size : Int) < (sd.size : Int) then (d, 8)
    else if d.fu = 0 then (⟨d.da ++ sd, d.sy, d.ca, true, 0⟩, 12) else (⟨d.da ++ sd, d.sy, d.ca, false, dec d.fu⟩, 0)
  else if k = 2 then
    if d.fu = 0 then (⟨d.da, d.sy, d.ca, true, 0⟩, 12) else (⟨d.da, d.da.size, d.ca, false, dec d.fu⟩, 0)
  else
    if sz < 0 ∨ (d.da.size : Int) < sz then (d, 2)
    else if d.fu = 0 then (⟨d.da, d.sy, d.ca, true, 0⟩, 12) else (⟨d.da.extract 0 sz.toNat, sz, d.ca, false, dec d.fu⟩, 0)

theorem do8_any (d : Dk) (k : Int) (sd : ByteArray) (sz : Int) (w : World) (hk : 0 ≤ k) (hu : d.fu ≤ 9223372036854775807) :
    Calls Try.prog 8 #[.agg #[.string d.da, .int .i64 d.sy, .int .i64 d.ca, .bool d.dn, .int .i64 d.fu], .agg #[.int .u8 k, .string sd, .int .i64 sz]] w fun e w' => e = .returned (.tuple #[(doR d k sd sz).1.v, .int .i64 (doR d k sd sz).2]) ∧ Below w.heap.size w w' := by
  obtain ⟨da, sy, ca, dn, fu⟩ := d
  simp only at hu ⊢
  unfold doR
  simp only
  cases h : okB da sy ca
  · exact do8_bad da sy ca dn fu k sd sz w h
  rw [if_neg (by simp)]
  by_cases ht : k = 0 ∨ 4 ≤ k
  · rw [if_pos ht]; exact do8_type da sy ca dn fu k sd sz w h ht
  rw [if_neg ht]
  cases dn with
  | true =>
    rw [if_pos rfl]
    obtain rfl | rfl | rfl : k = 1 ∨ k = 2 ∨ k = 3 := by omega
    · exact do8_down1 da sy ca fu sd sz w h
    · exact do8_down2 da sy ca fu sd sz w h
    · exact do8_down3 da sy ca fu sd sz w h
  | false =>
    rw [if_neg (by simp)]
    obtain rfl | rfl | rfl : k = 1 ∨ k = 2 ∨ k = 3 := by omega
    · rw [if_pos rfl]
      by_cases h1 : ca - (da.size : Int) < (sd.size : Int)
      · rw [if_pos h1]; exact do8_full da sy ca fu sd sz w h h1
      rw [if_neg h1]
      by_cases h0 : fu = 0
      · subst h0; rw [if_pos rfl]; exact do8_wz da sy ca sd sz w h (by omega)
      rw [if_neg h0]
      unfold dec
      by_cases h2 : 0 < fu
      · rw [if_pos h2]; exact do8_wp da sy ca fu sd sz w h (by omega) h2 hu
      · rw [if_neg h2]; exact do8_wn da sy ca fu sd sz w h (by omega) (by omega)
    · rw [if_neg (by decide), if_pos rfl]
      by_cases h0 : fu = 0
      · subst h0; rw [if_pos rfl]; exact do8_sz da sy ca sd sz w h
      rw [if_neg h0]
      unfold dec
      by_cases h2 : 0 < fu
      · rw [if_pos h2]; exact do8_sp da sy ca fu sd sz w h h2 hu
      · rw [if_neg h2]; exact do8_sn da sy ca fu sd sz w h (by omega)
    · rw [if_neg (by decide), if_neg (by decide)]
      by_cases h1 : sz < 0
      · rw [if_pos (Or.inl h1)]; exact do8_neg da sy ca fu sd sz w h h1
      by_cases h3 : (da.size : Int) < sz
      · rw [if_pos (Or.inr h3)]; exact do8_big da sy ca fu sd sz w h (by omega) h3
      rw [if_neg (by omega)]
      by_cases h0 : fu = 0
      · subst h0; rw [if_pos rfl]; exact do8_cz da sy ca sd sz w h (by omega) (by omega)
      rw [if_neg h0]
      unfold dec
      by_cases h2 : 0 < fu
      · rw [if_pos h2]; exact do8_cp da sy ca fu sd sz w h (by omega) (by omega) h2 hu
      · rw [if_neg h2]; exact do8_cn da sy ca fu sd sz w h (by omega) (by omega) (by omega)

theorem do9_any (d : Dk) (k : Int) (sd : ByteArray) (sz : Int) (w : World) (hk : 0 ≤ k) (hu : d.fu ≤ 9223372036854775807) :
    Calls Try.prog 9 #[.agg #[.string d.da, .int .i64 d.sy, .int .i64 d.ca, .bool d.dn, .int .i64 d.fu], .agg #[.int .u8 k, .string sd, .int .i64 sz]] w fun e w' => e = .returned (.tuple #[(doR d k sd sz).1.v, .int .i64 (doR d k sd sz).2]) ∧ Below w.heap.size w w' := by
  obtain ⟨da, sy, ca, dn, fu⟩ := d
  simp only at hu ⊢
  unfold doR
  simp only
  cases h : okB da sy ca
  · exact do9_bad da sy ca dn fu k sd sz w h
  rw [if_neg (by simp)]
  by_cases ht : k = 0 ∨ 4 ≤ k
  · rw [if_pos ht]
    rcases ht with rfl | ht
    · exact do9_type0 da sy ca dn fu sd sz w h
    · exact do9_type4 da sy ca dn fu k sd sz w h ht
  rw [if_neg ht]
  cases dn with
  | true =>
    rw [if_pos rfl]
    obtain rfl | rfl | rfl : k = 1 ∨ k = 2 ∨ k = 3 := by omega
    · exact do9_down1 da sy ca fu sd sz w h
    · exact do9_down2 da sy ca fu sd sz w h
    · exact do9_down3 da sy ca fu sd sz w h
  | false =>
    rw [if_neg (by simp)]
    obtain rfl | rfl | rfl : k = 1 ∨ k = 2 ∨ k = 3 := by omega
    · rw [if_pos rfl]
      by_cases h1 : ca - (da.size : Int) < (sd.size : Int)
      · rw [if_pos h1]; exact do9_full da sy ca fu sd sz w h h1
      rw [if_neg h1]
      by_cases h0 : fu = 0
      · subst h0; rw [if_pos rfl]; exact do9_wz da sy ca sd sz w h (by omega)
      rw [if_neg h0]
      unfold dec
      by_cases h2 : 0 < fu
      · rw [if_pos h2]; exact do9_wp da sy ca fu sd sz w h (by omega) h2 hu
      · rw [if_neg h2]; exact do9_wn da sy ca fu sd sz w h (by omega) (by omega)
    · rw [if_neg (by decide), if_pos rfl]
      by_cases h0 : fu = 0
      · subst h0; rw [if_pos rfl]; exact do9_sz da sy ca sd sz w h
      rw [if_neg h0]
      unfold dec
      by_cases h2 : 0 < fu
      · rw [if_pos h2]; exact do9_sp da sy ca fu sd sz w h h2 hu
      · rw [if_neg h2]; exact do9_sn da sy ca fu sd sz w h (by omega)
    · rw [if_neg (by decide), if_neg (by decide)]
      by_cases h1 : sz < 0
      · rw [if_pos (Or.inl h1)]; exact do9_neg da sy ca fu sd sz w h h1
      by_cases h3 : (da.size : Int) < sz
      · rw [if_pos (Or.inr h3)]; exact do9_big da sy ca fu sd sz w h (by omega) h3
      rw [if_neg (by omega)]
      by_cases h0 : fu = 0
      · subst h0; rw [if_pos rfl]; exact do9_cz da sy ca sd sz w h (by omega) (by omega)
      rw [if_neg h0]
      unfold dec
      by_cases h2 : 0 < fu
      · rw [if_pos h2]; exact do9_cp da sy ca fu sd sz w h (by omega) (by omega) h2 hu
      · rw [if_neg h2]; exact do9_cn da sy ca fu sd sz w h (by omega) (by omega) (by omega)

/-- Crash -/
def kept (d : Dk) (keep : Int) : Int := d.sy + min (max keep 0) ((d.da.size : Int) - d.sy)
def crashR (d : Dk) (keep : Int) : Dk × Int :=
  if okB d.da d.sy d.ca = false then (Dk.zero, 6)
  else (⟨d.da.extract 0 (kept d keep).toNat, kept d keep, d.ca, false, -1⟩, 0)
end Go.Proofs.Ythfmmkabfndbfaa
