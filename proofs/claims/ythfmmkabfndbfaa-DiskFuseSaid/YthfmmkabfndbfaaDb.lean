/- The disk's methods. -/
import Derived.Test.YthfmmkabfndbfaaDa
import Derived.RegionTactic
import Derived.BigRegion
import Derived.StillTailTactics
import Derived.ChangeAlike
import Derived.OneCell
namespace Go.Proofs.Ythfmmkabfndbfaa
open Go.RowKit

abbrev plate (da : ByteArray) (sy ca : Int) (dn : Bool) (fu : Int) (k : Int) (sd : ByteArray) (sz : Int) : Obj :=
  .cells #[.string da, .int .i64 sy, .int .i64 ca, .bool dn, .int .i64 fu, .int .u8 k, .string sd, .int .i64 sz] 45 (0, 0)

section
variable (b : Nat) (da : ByteArray) (sy ca : Int) (dn : Bool) (fu : Int) (k : Int) (sd : ByteArray) (sz : Int) (pw : Bool) (w : World)

theorem plate_cells (h : w.heap[b]? = some (plate da sy ca dn fu k sd sz)) :
    w.cell? ⟨b, 0, none⟩ = some (.string da) ∧ w.cell? ⟨b, 1, none⟩ = some (.int .i64 sy) ∧ w.cell? ⟨b, 2, none⟩ = some (.int .i64 ca) ∧ w.cell? ⟨b, 3, none⟩ = some (.bool dn) ∧ w.cell? ⟨b, 4, none⟩ = some (.int .i64 fu) ∧ w.cell? ⟨b, 5, none⟩ = some (.int .u8 k) ∧ w.cell? ⟨b, 6, none⟩ = some (.string sd) ∧ w.cell? ⟨b, 7, none⟩ = some (.int .i64 sz) ∧ (∀ o, w.frozen? ⟨b, o, none⟩ = false) := by
  simp [World.cell?, World.frozen?, h]

set_option maxHeartbeats 400000 in
theorem sync20_on (h : w.heap[b]? = some (plate da sy ca dn fu k sd sz)) :
    Calls Try.prog 20 #[.pointer (some ⟨b, 0, none⟩), .bool true] w fun e w' => e = .returned (.int .i64 0) ∧ w' = w.setCell ⟨b, 1, none⟩ (.int .i64 (da.size : Int)) := by
  obtain ⟨c0, c1, c2, c3, c4, c5, c6, c7, hf⟩ := plate_cells b da sy ca dn fu k sd sz w h
  clear h
  go_enter Try.func20, Try.ntmps20
  go_wp2
  go_ret
  exact ⟨rfl, rfl⟩
set_option maxHeartbeats 400000 in
theorem sync20_off :
    Calls Try.prog 20 #[.pointer (some ⟨b, 0, none⟩), .bool false] w fun e w' => e = .returned (.int .i64 0) ∧ w' = w := by
  go_enter Try.func20, Try.ntmps20
  go_wp2
  go_ret
  exact ⟨rfl, rfl⟩

set_option maxHeartbeats 400000 in
theorem write19_no (h : w.heap[b]? = some (plate da sy ca dn fu k sd sz)) (h1 : ca - (da.size : Int) < (sd.size : Int)) (h2 : 0 ≤ ca) (h3 : ca ≤ 262144) (h4 : (da.size : Int) ≤ ca) :
    Calls Try.prog 19 #[.pointer (some ⟨b, 0, none⟩), .bool pw] w fun e w' => e = .returned (.int .i64 8) ∧ ∃ n, w' = w.drewN n := by
  obtain ⟨c0, c1, c2, c3, c4, c5, c6, c7, hf⟩ := plate_cells b da sy ca dn fu k sd sz w h
  clear h
  go_enter Try.func19, Try.ntmps19
  go_wp2
  go_quiet (fail)
  go_wp2
  go_ret
  exact ⟨rfl, _, rfl⟩

set_option maxHeartbeats 400000 in
theorem write19_ok (h : w.heap[b]? = some (plate da sy ca dn fu k sd sz)) (h1 : (sd.size : Int) ≤ ca - (da.size : Int)) (h2 : 0 ≤ ca) (h3 : ca ≤ 262144) (h4 : (da.size : Int) ≤ ca) :
    Calls Try.prog 19 #[.pointer (some ⟨b, 0, none⟩), .bool pw] w fun e w' => e = .returned (.int .i64 0) ∧ ∃ n, w' = (w.setCell ⟨b, 0, none⟩ (.string (da ++ sd))).drewN n := by
  obtain ⟨c0, c1, c2, c3, c4, c5, c6, c7, hf⟩ := plate_cells b da sy ca dn fu k sd sz w h
  clear h
  have h1' : ¬ (ca - (da.size : Int) < (sd.size : Int)) := by omega
  go_enter Try.func19, Try.ntmps19
  go_wp2
  go_quiet (fail)
  go_wp2
  go_region
  all_goals (go_wp2; go_ret; exact ⟨rfl, _, rfl⟩)

set_option maxHeartbeats 400000 in
theorem cut21_neg (h : w.heap[b]? = some (plate da sy ca dn fu k sd sz)) (h1 : sz < 0) :
    Calls Try.prog 21 #[.pointer (some ⟨b, 0, none⟩), .bool pw] w fun e w' => e = .returned (.int .i64 2) ∧ ∃ n, w' = w.drewN n := by
  obtain ⟨c0, c1, c2, c3, c4, c5, c6, c7, hf⟩ := plate_cells b da sy ca dn fu k sd sz w h
  clear h
  go_enter Try.func21, Try.ntmps21
  go_wp2
  go_quiet (fail)
  go_wp2
  go_ret
  exact ⟨rfl, _, rfl⟩
set_option maxHeartbeats 400000 in
theorem cut21_big (h : w.heap[b]? = some (plate da sy ca dn fu k sd sz)) (h1 : 0 ≤ sz) (h2 : (da.size : Int) < sz) :
    Calls Try.prog 21 #[.pointer (some ⟨b, 0, none⟩), .bool pw] w fun e w' => e = .returned (.int .i64 2) ∧ ∃ n, w' = w.drewN n := by
  obtain ⟨c0, c1, c2, c3, c4, c5, c6, c7, hf⟩ := plate_cells b da sy ca dn fu k sd sz w h
  clear h
  have h1' : decide (sz < 0) = false := by simp; omega
  go_enter Try.func21, Try.ntmps21
  go_wp2
  go_quiet (fail)
  go_wp2
  go_ret
  exact ⟨rfl, _, rfl⟩
set_option maxHeartbeats 400000 in
theorem cut21_off (h : w.heap[b]? = some (plate da sy ca dn fu k sd sz)) (h1 : 0 ≤ sz) (h2 : sz ≤ (da.size : Int)) :
    Calls Try.prog 21 #[.pointer (some ⟨b, 0, none⟩), .bool false] w fun e w' => e = .returned (.int .i64 0) ∧ ∃ n, w' = w.drewN n := by
  obtain ⟨c0, c1, c2, c3, c4, c5, c6, c7, hf⟩ := plate_cells b da sy ca dn fu k sd sz w h
  clear h
  have h1' : decide (sz < 0) = false := by simp; omega
  have h2' : decide ((da.size : Int) < sz) = false := by simp; omega
  go_enter Try.func21, Try.ntmps21
  go_wp2
  go_quiet (fail)
  go_wp2
  go_ret
  exact ⟨rfl, _, rfl⟩
set_option maxHeartbeats 1000000 in
theorem cut21_on (h : w.heap[b]? = some (plate da sy ca dn fu k sd sz)) (h1 : 0 ≤ sz) (h2 : sz ≤ (da.size : Int)) :
    Calls Try.prog 21 #[.pointer (some ⟨b, 0, none⟩), .bool true] w fun e w' => e = .returned (.int .i64 0) ∧ ∃ n, w' = ((w.setCell ⟨b, 0, none⟩ (.string (da.extract 0 sz.toNat))).setCell ⟨b, 1, none⟩ (.int .i64 sz)).drewN n := by
  obtain ⟨c0, c1, c2, c3, c4, c5, c6, c7, hf⟩ := plate_cells b da sy ca dn fu k sd sz w h
  clear h
  have h1' : decide (sz < 0) = false := by simp; omega
  have h2' : decide ((da.size : Int) < sz) = false := by simp; omega
  go_enter Try.func21, Try.ntmps21
  go_wp2
  go_quiet (fail)
  go_wp2
  go_region
  all_goals (go_wp2; go_ret; exact ⟨rfl, _, rfl⟩)
end
/-- a cell of the plate is set -/
theorem plate_set {w : World} {b : Nat} {cs : Array Value} {T : TypeId} (h : w.heap[b]? = some (.cells cs T (0, 0))) (i : Nat) (v : Value) : (w.setCell ⟨b, i, none⟩ v).heap[b]? = some (.cells (cs.setIfInBounds i v) T (0, 0)) := by
  have hlt := lt_of_block h
  have h' : w.heap[b] = .cells cs T (0, 0) := by simpa [Array.getElem?_eq_getElem hlt] using h
  show (w.heap.modify b _)[b]? = _
  rw [Array.getElem?_eq_getElem (by simpa using hlt), Array.getElem_modify_self, h']
  rfl
theorem below_drewN' {B : Nat} {w w' : World} (h : Below B w w') (n : Nat) : Below B w (w'.drewN n) := ⟨h.os, h.tape, h.output, h.size, h.block⟩

/-- what a method leaves: the plate is as told, all below is as it was -/
def Left (b : Nat) (O : Obj) (w w' : World) : Prop := Below b w w' ∧ w'.heap[b]? = some O
section
variable (b : Nat) (da : ByteArray) (sy ca : Int) (dn : Bool) (fu : Int) (k : Int) (sd : ByteArray) (sz : Int) (pw : Bool) (w : World)
theorem sync20_on' (h : w.heap[b]? = some (plate da sy ca dn fu k sd sz)) :
    Calls Try.prog 20 #[.pointer (some ⟨b, 0, none⟩), .bool true] w fun e w' => e = .returned (.int .i64 0) ∧ Left b (plate da da.size ca dn fu k sd sz) w w' :=
  (sync20_on b da sy ca dn fu k sd sz w h).mono fun _ _ ⟨he, hw⟩ => ⟨he, by rw [hw]; exact (Below.refl b w).setCell (p := ⟨b, 1, none⟩) (Nat.le_refl b) _, by rw [hw]; exact plate_set h 1 _⟩
theorem sync20_off' (h : w.heap[b]? = some (plate da sy ca dn fu k sd sz)) :
    Calls Try.prog 20 #[.pointer (some ⟨b, 0, none⟩), .bool false] w fun e w' => e = .returned (.int .i64 0) ∧ Left b (plate da sy ca dn fu k sd sz) w w' :=
  (sync20_off b w).mono fun _ _ ⟨he, hw⟩ => ⟨he, hw ▸ Below.refl _ _, hw ▸ h⟩
theorem write19_no' (h : w.heap[b]? = some (plate da sy ca dn fu k sd sz)) (h1 : ca - (da.size : Int) < (sd.size : Int)) (h2 : 0 ≤ ca) (h3 : ca ≤ 262144) (h4 : (da.size : Int) ≤ ca) :
    Calls Try.prog 19 #[.pointer (some ⟨b, 0, none⟩), .bool pw] w fun e w' => e = .returned (.int .i64 8) ∧ Left b (plate da sy ca dn fu k sd sz) w w' :=
  (write19_no b da sy ca dn fu k sd sz pw w h h1 h2 h3 h4).mono fun _ _ ⟨he, _, hw⟩ => ⟨he, hw ▸ below_drewN' (Below.refl _ _) _, hw ▸ h⟩
theorem write19_ok' (h : w.heap[b]? = some (plate da sy ca dn fu k sd sz)) (h1 : (sd.size : Int) ≤ ca - (da.size : Int)) (h2 : 0 ≤ ca) (h3 : ca ≤ 262144) (h4 : (da.size : Int) ≤ ca) :
    Calls Try.prog 19 #[.pointer (some ⟨b, 0, none⟩), .bool pw] w fun e w' => e = .returned (.int .i64 0) ∧ Left b (plate (da ++ sd) sy ca dn fu k sd sz) w w' :=
  (write19_ok b da sy ca dn fu k sd sz pw w h h1 h2 h3 h4).mono fun _ _ ⟨he, _, hw⟩ => ⟨he, by rw [hw]; exact below_drewN' ((Below.refl b w).setCell (p := ⟨b, 0, none⟩) (Nat.le_refl b) _) _, by rw [hw]; exact plate_set h 0 _⟩
theorem cut21_neg' (h : w.heap[b]? = some (plate da sy ca dn fu k sd sz)) (h1 : sz < 0) :
    Calls Try.prog 21 #[.pointer (some ⟨b, 0, none⟩), .bool pw] w fun e w' => e = .returned (.int .i64 2) ∧ Left b (plate da sy ca dn fu k sd sz) w w' :=
  (cut21_neg b da sy ca dn fu k sd sz pw w h h1).mono fun _ _ ⟨he, _, hw⟩ => ⟨he, hw ▸ below_drewN' (Below.refl _ _) _, hw ▸ h⟩
theorem cut21_big' (h : w.heap[b]? = some (plate da sy ca dn fu k sd sz)) (h1 : 0 ≤ sz) (h2 : (da.size : Int) < sz) :
    Calls Try.prog 21 #[.pointer (some ⟨b, 0, none⟩), .bool pw] w fun e w' => e = .returned (.int .i64 2) ∧ Left b (plate da sy ca dn fu k sd sz) w w' :=
  (cut21_big b da sy ca dn fu k sd sz pw w h h1 h2).mono fun _ _ ⟨he, _, hw⟩ => ⟨he, hw ▸ below_drewN' (Below.refl _ _) _, hw ▸ h⟩
theorem cut21_off' (h : w.heap[b]? = some (plate da sy ca dn fu k sd sz)) (h1 : 0 ≤ sz) (h2 : sz ≤ (da.size : Int)) :
    Calls Try.prog 21 #[.pointer (some ⟨b, 0, none⟩), .bool false] w fun e w' => e = .returned (.int .i64 0) ∧ Left b (plate da sy ca dn fu k sd sz) w w' :=
  (cut21_off b da sy ca dn fu k sd sz w h h1 h2).mono fun _ _ ⟨he, _, hw⟩ => ⟨he, hw ▸ below_drewN' (Below.refl _ _) _, hw ▸ h⟩
theorem cut21_on' (h : w.heap[b]? = some (plate da sy ca dn fu k sd sz)) (h1 : 0 ≤ sz) (h2 : sz ≤ (da.size : Int)) :
    Calls Try.prog 21 #[.pointer (some ⟨b, 0, none⟩), .bool true] w fun e w' => e = .returned (.int .i64 0) ∧ Left b (plate (da.extract 0 sz.toNat) sz ca dn fu k sd sz) w w' :=
  (cut21_on b da sy ca dn fu k sd sz w h h1 h2).mono fun _ _ ⟨he, _, hw⟩ => ⟨he, by rw [hw]; exact below_drewN' (((Below.refl b w).setCell (p := ⟨b, 0, none⟩) (Nat.le_refl b) _).setCell (p := ⟨b, 1, none⟩) (Nat.le_refl b) _) _, by rw [hw]; exact plate_set (plate_set h 0 _) 1 _⟩
end
end Go.Proofs.Ythfmmkabfndbfaa
