import Derived.Test.YtgjgllfeinjpnaaGreatDoorKUa
import Derived.Test.YtgjgllfeinjpnaaGreatDoorKMd
import Derived.Test.YtgjgllfeinjpnaaGreatDoorKRe
/- A value in a box; the steps of ExprNull. -/
namespace Go.Proofs.YtgjgllfeinjpnaaGreatDoor
open Go.RowKit
set_option linter.unusedSimpArgs false
set_option linter.unusedVariables false
def RowBox (g : Nat) (t : VT) (w : World) (c0 c1 c2 c3 c4 c5 : Value) : Prop := w.heap[g]? = some (.cells #[c0, c1, c2, c3, c4, c5] 26 (0, 0)) ∧ RV w 0 w.heap.size t [c0, c1, c2, c3, c4, c5]
theorem RowBox.keep {g : Nat} {t : VT} {w w' : World} {c0 c1 c2 c3 c4 c5 : Value} (h : RowBox g t w c0 c1 c2 c3 c4 c5) (hb : Below w.heap.size w w') : RowBox g t w' c0 c1 c2 c3 c4 c5 := ⟨blk hb h.1, h.2.grow hb⟩
theorem ok_nP : StOk nP := ⟨show I64 0 by unfold I64; decide, show (⟨#[]⟩ : ByteArray).size ≤ LIM by decide, show (0 : Int) ≤ 1 by decide⟩
theorem ok_oP {k : Int} (h : 0 ≤ k) : StOk (oP k) := ⟨show I64 0 by unfold I64; decide, show (⟨#[]⟩ : ByteArray).size ≤ LIM by decide, h⟩
theorem null_steps {l : List ST} {k : Int} (h : ∀ s ∈ l, StOk s) (hk : 0 ≤ k) : ∀ s ∈ [nP] ++ l ++ [oP k], StOk s := by
  intro s hs
  rcases List.mem_append.1 hs with hs | hs
  · rcases List.mem_append.1 hs with hs | hs
    · simp only [List.mem_singleton] at hs; subst hs; exact ok_nP
    · exact h s hs
  · simp only [List.mem_singleton] at hs; subst hs; exact ok_oP hk
theorem null_steps' {l : List ST} {k : Int} (h : ∀ s ∈ l, StOk s) (hk : 0 ≤ k) : ∀ s ∈ l ++ [nP] ++ [oP k], StOk s := by
  intro s hs
  rcases List.mem_append.1 hs with hs | hs
  · rcases List.mem_append.1 hs with hs | hs
    · exact h s hs
    · simp only [List.mem_singleton] at hs; subst hs; exact ok_nP
  · simp only [List.mem_singleton] at hs; subst hs; exact ok_oP hk
mutual
theorem sameV_refl' : ∀ t : VT, sameV t t = true
  | .mk k b n s l f => by
    unfold sameV flatB
    rw [sameL_refl' l, sameF_refl' f]
    simp
theorem sameL_refl' : ∀ l : VL, sameL l l = true
  | .nil => rfl
  | .cons t r => by
    unfold sameL
    rw [sameV_refl' t, sameL_refl' r]
    rfl
theorem sameF_refl' : ∀ f : FL, sameF f f = true
  | .nil => rfl
  | .cons s t r => by
    unfold sameF
    rw [sameV_refl' t, sameF_refl' r]
    simp
end
end Go.Proofs.YtgjgllfeinjpnaaGreatDoor
