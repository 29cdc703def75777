/- The disk's functions: what each call comes to. -/
import Derived.Test.YthfmmkabfndbfaaRows
import Derived.WalkKit
import Derived.WalkSpells
import Derived.WalkLawsBesides
import Derived.Deep.QuietTactic
import Derived.BigQuiet
namespace Go.Proofs.Ythfmmkabfndbfaa
open Go.RowKit

structure Dk where
  da : ByteArray
  sy : Int
  ca : Int
  dn : Bool
  fu : Int

abbrev Dk.v (d : Dk) : Value := .agg #[.string d.da, .int .i64 d.sy, .int .i64 d.ca, .bool d.dn, .int .i64 d.fu]

/-- a disk's check: a Bool -/
def okB (da : ByteArray) (sy ca : Int) : Bool := decide (0 ≤ ca ∧ ca ≤ 262144 ∧ (da.size : Int) ≤ ca ∧ 0 ≤ sy ∧ sy ≤ (da.size : Int))
theorem okB_true {da : ByteArray} {sy ca : Int} (h : okB da sy ca = true) : 0 ≤ ca ∧ ca ≤ 262144 ∧ (da.size : Int) ≤ ca ∧ 0 ≤ sy ∧ sy ≤ (da.size : Int) := of_decide_eq_true h
theorem okB_false {da : ByteArray} {sy ca : Int} (h : okB da sy ca = false) : ¬ (0 ≤ ca ∧ ca ≤ 262144 ∧ (da.size : Int) ≤ ca ∧ 0 ≤ sy ∧ sy ≤ (da.size : Int)) := of_decide_eq_false h

def errB (b : Bool) : Int := if b then 0 else 6

section
variable (da : ByteArray) (sy ca : Int) (dn : Bool) (fu : Int) (w : World)
set_option maxHeartbeats 400000 in
theorem check15_ok (h : okB da sy ca = true) :
    Calls Try.prog 15 #[.agg #[.string da, .int .i64 sy, .int .i64 ca, .bool dn, .int .i64 fu]] w fun e w' => e = .returned (.int .i64 0) ∧ Below w.heap.size w w' := by
  obtain ⟨h1, h2, h3, h4, h5⟩ := okB_true h
  clear h
  have h1' : decide (ca < 0) = false := by simp; omega
  have h2' : decide (262144 < ca) = false := by simp; omega
  have h3' : decide (ca < (da.size : Int)) = false := by simp; omega
  have h4' : decide (sy < 0) = false := by simp; omega
  have h5' : decide ((da.size : Int) < sy) = false := by simp; omega
  go_enter Try.func15, Try.ntmps15
  go_wp2
  go_ret
  exact ⟨rfl, (Below.refl _ _).alloc (Nat.le_refl _) _⟩
set_option maxHeartbeats 400000 in
theorem check15_no (h : okB da sy ca = false) :
    Calls Try.prog 15 #[.agg #[.string da, .int .i64 sy, .int .i64 ca, .bool dn, .int .i64 fu]] w fun e w' => e = .returned (.int .i64 6) ∧ Below w.heap.size w w' := by
  have h0 := okB_false h
  clear h
  by_cases h1 : ca < 0
  · go_enter Try.func15, Try.ntmps15
    go_wp2
    go_ret
    exact ⟨rfl, (Below.refl _ _).alloc (Nat.le_refl _) _⟩
  have h1' : decide (ca < 0) = false := by simp; omega
  by_cases h2 : 262144 < ca
  · go_enter Try.func15, Try.ntmps15
    go_wp2
    go_ret
    exact ⟨rfl, (Below.refl _ _).alloc (Nat.le_refl _) _⟩
  have h2' : decide (262144 < ca) = false := by simp; omega
  by_cases h3 : ca < (da.size : Int)
  · go_enter Try.func15, Try.ntmps15
    go_wp2
    go_ret
    exact ⟨rfl, (Below.refl _ _).alloc (Nat.le_refl _) _⟩
  have h3' : decide (ca < (da.size : Int)) = false := by simp; omega
  by_cases h4 : sy < 0
  · go_enter Try.func15, Try.ntmps15
    go_wp2
    go_ret
    exact ⟨rfl, (Below.refl _ _).alloc (Nat.le_refl _) _⟩
  have h4' : decide (sy < 0) = false := by simp; omega
  have h5 : (da.size : Int) < sy := by omega
  clear h0
  go_enter Try.func15, Try.ntmps15
  go_wp2
  go_ret
  exact ⟨rfl, (Below.refl _ _).alloc (Nat.le_refl _) _⟩
set_option maxHeartbeats 400000 in
theorem check16_ok (h : okB da sy ca = true) :
    Calls Try.prog 16 #[.agg #[.string da, .int .i64 sy, .int .i64 ca, .bool dn, .int .i64 fu]] w fun e w' => e = .returned (.int .i64 0) ∧ Below w.heap.size w w' := by
  obtain ⟨h1, h2, h3, h4, h5⟩ := okB_true h
  clear h
  have h1' : decide (ca < 0) = false := by simp; omega
  have h2' : decide (262144 < ca) = false := by simp; omega
  have h3' : decide (ca < (da.size : Int)) = false := by simp; omega
  have h4' : decide (sy < 0) = false := by simp; omega
  have h5' : decide ((da.size : Int) < sy) = false := by simp; omega
  go_enter Try.func16, Try.ntmps16
  go_wp2
  go_ret
  exact ⟨rfl, (Below.refl _ _).alloc (Nat.le_refl _) _⟩
set_option maxHeartbeats 400000 in
theorem check16_no (h : okB da sy ca = false) :
    Calls Try.prog 16 #[.agg #[.string da, .int .i64 sy, .int .i64 ca, .bool dn, .int .i64 fu]] w fun e w' => e = .returned (.int .i64 6) ∧ Below w.heap.size w w' := by
  have h0 := okB_false h
  clear h
  by_cases h1 : ca < 0
  · go_enter Try.func16, Try.ntmps16
    go_wp2
    go_ret
    exact ⟨rfl, (Below.refl _ _).alloc (Nat.le_refl _) _⟩
  have h1' : decide (ca < 0) = false := by simp; omega
  by_cases h2 : 262144 < ca
  · go_enter Try.func16, Try.ntmps16
    go_wp2
    go_ret
    exact ⟨rfl, (Below.refl _ _).alloc (Nat.le_refl _) _⟩
  have h2' : decide (262144 < ca) = false := by simp; omega
  by_cases h3 : ca < (da.size : Int)
  · go_enter Try.func16, Try.ntmps16
    go_wp2
    go_ret
    exact ⟨rfl, (Below.refl _ _).alloc (Nat.le_refl _) _⟩
  have h3' : decide (ca < (da.size : Int)) = false := by simp; omega
  by_cases h4 : sy < 0
  · go_enter Try.func16, Try.ntmps16
    go_wp2
    go_ret
    exact ⟨rfl, (Below.refl _ _).alloc (Nat.le_refl _) _⟩
  have h4' : decide (sy < 0) = false := by simp; omega
  have h5 : (da.size : Int) < sy := by omega
  clear h0
  go_enter Try.func16, Try.ntmps16
  go_wp2
  go_ret
  exact ⟨rfl, (Below.refl _ _).alloc (Nat.le_refl _) _⟩

theorem check15_any : Calls Try.prog 15 #[.agg #[.string da, .int .i64 sy, .int .i64 ca, .bool dn, .int .i64 fu]] w fun e w' => e = .returned (.int .i64 (errB (okB da sy ca))) ∧ Below w.heap.size w w' := by
  cases h : okB da sy ca
  · exact check15_no da sy ca dn fu w h
  · exact check15_ok da sy ca dn fu w h
theorem check16_any : Calls Try.prog 16 #[.agg #[.string da, .int .i64 sy, .int .i64 ca, .bool dn, .int .i64 fu]] w fun e w' => e = .returned (.int .i64 (errB (okB da sy ca))) ∧ Below w.heap.size w w' := by
  cases h : okB da sy ca
  · exact check16_no da sy ca dn fu w h
  · exact check16_ok da sy ca dn fu w h

theorem bcell {W w1 : World} (hb : Below W.heap.size W w1) : (∀ b o, b < W.heap.size → w1.cell? ⟨b, o, none⟩ = W.cell? ⟨b, o, none⟩) ∧ (∀ b o, b < W.heap.size → w1.frozen? ⟨b, o, none⟩ = W.frozen? ⟨b, o, none⟩) :=
  ⟨fun b o h => hb.cell (p := ⟨b, o, none⟩) h, fun b o h => hb.frozen (p := ⟨b, o, none⟩) h⟩

/-- Read -/
def readS (d : Dk) : ByteArray := if okB d.da d.sy d.ca then (if d.dn then ⟨#[]⟩ else d.da) else ⟨#[]⟩
def readE (d : Dk) : Int := if okB d.da d.sy d.ca then (if d.dn then 12 else 0) else 6

set_option maxHeartbeats 400000 in
theorem read10_any : Calls Try.prog 10 #[.agg #[.string da, .int .i64 sy, .int .i64 ca, .bool dn, .int .i64 fu]] w fun e w' => e = .returned (.tuple #[.string (readS ⟨da, sy, ca, dn, fu⟩), .int .i64 (readE ⟨da, sy, ca, dn, fu⟩)]) ∧ Below w.heap.size w w' := by
  cases h : okB da sy ca
  · go_enter Try.func10, Try.ntmps10
    go_wp2_with (go_at_call 15; refine (check15_no da sy ca dn fu _ h).mono ?_; rintro e w1 ⟨rfl, hb⟩)
    go_ret2
    refine ⟨by simp [readS, readE, h], ?_⟩
    exact ((Below.refl _ _).alloc (Nat.le_refl _) _).trans (hb.mono (by simp))
  · cases dn
    all_goals
      go_enter Try.func10, Try.ntmps10
      go_wp2_with (go_at_call 15; refine (check15_ok da sy ca _ fu _ h).mono ?_; rintro e w1 ⟨rfl, hb⟩; obtain ⟨hc, hf⟩ := bcell hb)
      go_ret2
      refine ⟨by simp [readS, readE, h], ?_⟩
      exact ((Below.refl _ _).alloc (Nat.le_refl _) _).trans (hb.mono (by simp))
end
end Go.Proofs.Ythfmmkabfndbfaa
