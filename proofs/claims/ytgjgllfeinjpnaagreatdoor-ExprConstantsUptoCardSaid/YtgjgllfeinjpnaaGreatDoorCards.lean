/-
  DERIVED. GIVEN WITH THE SEED: THE CARDS: each row of YtgjgllfeinjpnaaGreatDoorRows.lean that lists a variable, with what it lists TIED to the program's text (the seventh form; the later family's looks); each row that meets fmt, with fmt's text TOLD by the authors' own Lean function (tested against real Go, not proved from fmt's source: count such statements apart). THE CARD IS WHAT COUNTS. Prove the row's statement (the work); the ties are given (YtgjgllfeinjpnaaGreatDoorTie.lean); close each card by the builder's one call (the guide's Derived/Test/ToyasCard.lean, 'card_holds'). Laid BY PROGRAM, IN A SANDBOX (cutbox-door.mjs). By AI agents, Wed Nov 11 2026. No macro, syntax, notation, axiom, sorry.
-/
import Derived.Test.YtgjgllfeinjpnaaGreatDoorRows
import GoSem.ClaimSeven
namespace Go.Proofs.YtgjgllfeinjpnaaGreatDoor
namespace Rows

/-- THE TIED CARD OF 'codicillaw11.ExprOrder'. -/
def exprOrderCard : Claim7 := { stood := { row := exprOrderRow, standIns := [], harness := (true, "a7d577b164cde9973280f7e0f2dc8a832e8679c0233486f35f559a0ff17f761f"), looks := true }, kinds := [], alts := [], laidByText := true, laidKinds := [.data, .data, .data, .data, .sentinel, .sentinel, .pinned], laidTests := true, laidLooks := .later }
def ExprOrderCardSaid : Prop := Claim7.holds Tryz.pinned (.plain (OpenSpec.ofChange exprOrderSpec)) exprOrderCard

/-- THE TIED CARD OF 'codicillaw11.ExprLogic'. -/
def exprLogicCard : Claim7 := { stood := { row := exprLogicRow, standIns := [], harness := (true, "a7d577b164cde9973280f7e0f2dc8a832e8679c0233486f35f559a0ff17f761f"), looks := true }, kinds := [], alts := [], laidByText := true, laidKinds := [.data, .data, .data, .data, .sentinel, .sentinel, .pinned], laidTests := true, laidLooks := .later }
def ExprLogicCardSaid : Prop := Claim7.holds Tryz.pinned (.plain (OpenSpec.ofChange exprLogicSpec)) exprLogicCard

/-- THE TIED CARD OF 'codicillaw11.ExprNull'. -/
def exprNullCard : Claim7 := { stood := { row := exprNullRow, standIns := [], harness := (true, "a7d577b164cde9973280f7e0f2dc8a832e8679c0233486f35f559a0ff17f761f"), looks := true }, kinds := [], alts := [], laidByText := true, laidKinds := [.data, .data, .data, .data, .sentinel, .sentinel, .pinned], laidTests := true, laidLooks := .later }
def ExprNullCardSaid : Prop := Claim7.holds Tryz.pinned (.plain (OpenSpec.ofChange exprNullSpec)) exprNullCard

/-- THE TIED CARD OF 'codicillaw11.ExprNumbers'. -/
def exprNumbersCard : Claim7 := { stood := { row := exprNumbersRow, standIns := [], harness := (true, "a7d577b164cde9973280f7e0f2dc8a832e8679c0233486f35f559a0ff17f761f"), looks := true }, kinds := [], alts := [], laidByText := true, laidKinds := [.data, .data, .data, .data, .sentinel, .sentinel, .pinned], laidTests := true, laidLooks := .later }
def ExprNumbersCardSaid : Prop := Claim7.holds Tryz.pinned (.plain (OpenSpec.ofChange exprNumbersSpec)) exprNumbersCard

/-- THE TIED CARD OF 'codicillaw11.ExprPaths'. -/
def exprPathsCard : Claim7 := { stood := { row := exprPathsRow, standIns := [], harness := (true, "a7d577b164cde9973280f7e0f2dc8a832e8679c0233486f35f559a0ff17f761f"), looks := true }, kinds := [], alts := [], laidByText := true, laidKinds := [.data, .data, .data, .data, .sentinel, .sentinel, .pinned], laidTests := true, laidLooks := .later }
def ExprPathsCardSaid : Prop := Claim7.holds Tryz.pinned (.plain (OpenSpec.ofChange exprPathsSpec)) exprPathsCard

/-- THE TIED CARD OF 'codicillaw11.ExprConstants'. -/
def exprConstantsCard : Claim7 := { stood := { row := exprConstantsRow, standIns := [], harness := (true, "a7d577b164cde9973280f7e0f2dc8a832e8679c0233486f35f559a0ff17f761f"), looks := true }, kinds := [], alts := [], laidByText := true, laidKinds := [.data, .data, .data, .data, .sentinel, .sentinel, .pinned], laidTests := true, laidLooks := .later }
def ExprConstantsCardSaid : Prop := Claim7.holds Tryz.pinned (.plain (OpenSpec.ofChange exprConstantsSpec)) exprConstantsCard

/-- THE SECOND FORM's CARD OF 'codicillaw11.ExprOrder'. -/
def exprOrderUptoCard : Claim7 := { stood := { row := exprOrderUptoRow, standIns := [], harness := (true, "a7d577b164cde9973280f7e0f2dc8a832e8679c0233486f35f559a0ff17f761f"), looks := true }, kinds := [], alts := [], laidByText := true, laidKinds := [.data, .data, .data, .data, .sentinel, .sentinel, .pinned], laidTests := true, laidLooks := .later }
def ExprOrderUptoCardSaid : Prop := Claim7.holds Tryz.pinned (.plain (OpenSpec.upto exprOrderSpec)) exprOrderUptoCard

/-- THE SECOND FORM's CARD OF 'codicillaw11.ExprLogic'. -/
def exprLogicUptoCard : Claim7 := { stood := { row := exprLogicUptoRow, standIns := [], harness := (true, "a7d577b164cde9973280f7e0f2dc8a832e8679c0233486f35f559a0ff17f761f"), looks := true }, kinds := [], alts := [], laidByText := true, laidKinds := [.data, .data, .data, .data, .sentinel, .sentinel, .pinned], laidTests := true, laidLooks := .later }
def ExprLogicUptoCardSaid : Prop := Claim7.holds Tryz.pinned (.plain (OpenSpec.upto exprLogicSpec)) exprLogicUptoCard

/-- THE SECOND FORM's CARD OF 'codicillaw11.ExprNull'. -/
def exprNullUptoCard : Claim7 := { stood := { row := exprNullUptoRow, standIns := [], harness := (true, "a7d577b164cde9973280f7e0f2dc8a832e8679c0233486f35f559a0ff17f761f"), looks := true }, kinds := [], alts := [], laidByText := true, laidKinds := [.data, .data, .data, .data, .sentinel, .sentinel, .pinned], laidTests := true, laidLooks := .later }
def ExprNullUptoCardSaid : Prop := Claim7.holds Tryz.pinned (.plain (OpenSpec.upto exprNullSpec)) exprNullUptoCard

/-- THE SECOND FORM's CARD OF 'codicillaw11.ExprNumbers'. -/
def exprNumbersUptoCard : Claim7 := { stood := { row := exprNumbersUptoRow, standIns := [], harness := (true, "a7d577b164cde9973280f7e0f2dc8a832e8679c0233486f35f559a0ff17f761f"), looks := true }, kinds := [], alts := [], laidByText := true, laidKinds := [.data, .data, .data, .data, .sentinel, .sentinel, .pinned], laidTests := true, laidLooks := .later }
def ExprNumbersUptoCardSaid : Prop := Claim7.holds Tryz.pinned (.plain (OpenSpec.upto exprNumbersSpec)) exprNumbersUptoCard

/-- THE SECOND FORM's CARD OF 'codicillaw11.ExprPaths'. -/
def exprPathsUptoCard : Claim7 := { stood := { row := exprPathsUptoRow, standIns := [], harness := (true, "a7d577b164cde9973280f7e0f2dc8a832e8679c0233486f35f559a0ff17f761f"), looks := true }, kinds := [], alts := [], laidByText := true, laidKinds := [.data, .data, .data, .data, .sentinel, .sentinel, .pinned], laidTests := true, laidLooks := .later }
def ExprPathsUptoCardSaid : Prop := Claim7.holds Tryz.pinned (.plain (OpenSpec.upto exprPathsSpec)) exprPathsUptoCard

/-- THE SECOND FORM's CARD OF 'codicillaw11.ExprConstants'. -/
def exprConstantsUptoCard : Claim7 := { stood := { row := exprConstantsUptoRow, standIns := [], harness := (true, "a7d577b164cde9973280f7e0f2dc8a832e8679c0233486f35f559a0ff17f761f"), looks := true }, kinds := [], alts := [], laidByText := true, laidKinds := [.data, .data, .data, .data, .sentinel, .sentinel, .pinned], laidTests := true, laidLooks := .later }
def ExprConstantsUptoCardSaid : Prop := Claim7.holds Tryz.pinned (.plain (OpenSpec.upto exprConstantsSpec)) exprConstantsUptoCard
end Rows
end Go.Proofs.YtgjgllfeinjpnaaGreatDoor
