import Derived.Test.YtgjgllfeinjpnaaGreatDoorKSd
/- A slice's length is at most its capacity. -/
namespace Go.Proofs.YtgjgllfeinjpnaaGreatDoor
open Go.RowKit
variable {H : Type} {enc : TypeId × Value → H} {w : World} {sp : Nat → Bool} {held : Bool}
theorem arg_cap {a : Option Addr} {n c : Nat} {d : DataW H} {ps : List MemPlace} (h : DataW.Trod enc Tryz.prog w 0 sp held 36 (.slice a n c) d ps) : n ≤ c := by
  obtain ⟨fuel, hf⟩ := h
  rcases DataW.trod_slice Tryz.underlying36 hf with ⟨hcs, _⟩ | ⟨a', len, cap, elems, rest, m, _, hcs, _, _, hlc, _⟩
  · have e : [Value.slice a n c] = [.slice none 0 0] := hcs
    simp only [List.cons.injEq, and_true] at e
    cases e
    exact Nat.le_refl _
  · have e : [Value.slice a n c] = [.slice (some a') len cap] := hcs
    simp only [List.cons.injEq, and_true] at e
    cases e
    exact hlc
end Go.Proofs.YtgjgllfeinjpnaaGreatDoor
