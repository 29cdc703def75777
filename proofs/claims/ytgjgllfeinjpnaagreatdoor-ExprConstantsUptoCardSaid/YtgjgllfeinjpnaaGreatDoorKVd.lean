import Derived.Test.YtgjgllfeinjpnaaGreatDoorKVa
import Derived.Test.YtgjgllfeinjpnaaGreatDoorKShelf
/- value.name: why a text may not be a field's name. -/
namespace Go.Proofs.YtgjgllfeinjpnaaGreatDoor
open Go.RowKit
set_option linter.unusedSimpArgs false
set_option linter.unusedVariables false

/-- the two tables of unicode/utf8 lie in memory as the program's text lays them -/
def Tabs (w : World) : Prop := Lib.Utf8Tabs 0 1 w

set_option maxHeartbeats 400000 in
theorem name_any (s : ByteArray) (w : World) (hs : s.size ≤ LIM) (hT : Tabs w) :
    Calls Tryz.prog 40 #[.string s] w fun x w' => x = .returned (.int .i64 (nameZ s)) ∧ Below w.heap.size w w' := by
  have hs2 : s.size ≤ 1048576 := hs
  by_cases h0 : s.size = 0
  · have e0 : s.toList = [] := by rw [ByteArray.toList_eq]; exact List.eq_nil_of_length_eq_zero (by simpa using h0)
    have r : nameZ s = 4 := by unfold nameZ; rw [if_pos (Or.inl h0)]
    rw [r]
    clear r
    go_enter Tryz.func40, Tryz.ntmps40
    go_wp2
    go_ret
    exact ⟨rfl, Below.refl _ _⟩
  have e0 : s.toList.isEmpty = false := by
    rw [ByteArray.toList_eq]
    cases h : s.data.toList with
    | nil => exact absurd (by simpa using congrArg List.length h) h0
    | cons a b => rfl
  have e0' : (s.toList == []) = false := by
    cases h : s.toList with
    | nil => rw [h] at e0; simp at e0
    | cons a b => rfl
  by_cases h1 : 1024 < s.size
  · have r : nameZ s = 4 := by unfold nameZ; rw [if_pos (Or.inr h1)]
    have e1 : (1024 : Int) < (s.size : Int) := by omega
    rw [r]
    clear r
    go_enter Tryz.func40, Tryz.ntmps40
    go_wp2
    go_ret
    exact ⟨rfl, Below.refl _ _⟩
  have e1 : ¬ (1024 : Int) < (s.size : Int) := by omega
  have V := Tryz.utf8_ValidString s w (by omega) hT
  have r : nameZ s = if Lib.validD s.data.toList then 0 else 9 := by unfold nameZ; rw [if_neg (by omega)]
  rw [r]
  clear r
  cases hv : Lib.validD s.data.toList with
  | true =>
    rw [hv] at V
    have V' := Lib.hid V
    clear V hv
    go_enter Tryz.func40, Tryz.ntmps40
    go_wp2_with fail
    refine V'.out.mono ?_
    rintro e w1 ⟨rfl, hb⟩
    go_wp2
    go_ret
    exact ⟨rfl, hb⟩
  | false =>
    rw [hv] at V
    have V' := Lib.hid V
    clear V hv
    go_enter Tryz.func40, Tryz.ntmps40
    go_wp2_with fail
    refine V'.out.mono ?_
    rintro e w1 ⟨rfl, hb⟩
    go_wp2
    go_ret
    exact ⟨rfl, hb⟩
end Go.Proofs.YtgjgllfeinjpnaaGreatDoor
