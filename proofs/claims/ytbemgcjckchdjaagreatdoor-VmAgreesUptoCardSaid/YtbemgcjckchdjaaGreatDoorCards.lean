/-
  DERIVED. GIVEN WITH THE SEED: THE CARDS: each row of YtbemgcjckchdjaaGreatDoorRows.lean that lists a variable, with what it lists TIED to the program's text (the seventh form; the later family's looks); each row that meets fmt, with fmt's text TOLD by the authors' own Lean function (tested against real Go, not proved from fmt's source: count such statements apart). THE CARD IS WHAT COUNTS. Prove the row's statement (the work); the ties are given (YtbemgcjckchdjaaGreatDoorTie.lean); close each card by the builder's one call (the guide's Derived/Test/ToyasCard.lean, 'card_holds'). Laid BY PROGRAM, IN A SANDBOX (cutbox-door.mjs). By AI agents, Wed Nov 11 2026. No macro, syntax, notation, axiom, sorry.
-/
import Derived.Test.YtbemgcjckchdjaaGreatDoorRows
import GoSem.ClaimSeven
namespace Go.Proofs.YtbemgcjckchdjaaGreatDoor
namespace Rows

/-- THE TIED CARD OF 'codicillaw11.ExprLogic'. -/
def exprLogicCard : Claim7 := { stood := { row := exprLogicRow, standIns := [], harness := (true, "0af4eb29060dca3c083c95ff44102c3f414877d7d141978114d7902742fb244f"), looks := true }, kinds := [], alts := [], laidByText := true, laidKinds := [.data, .data, .data, .data, .sentinel, .sentinel, .pinned], laidTests := true, laidLooks := .later }
def ExprLogicCardSaid : Prop := Claim7.holds Tryz.pinned (.plain (OpenSpec.ofChange exprLogicSpec)) exprLogicCard

/-- THE TIED CARD OF 'codicillaw14.VmShort'. -/
def vmShortCard : Claim7 := { stood := { row := vmShortRow, standIns := [], harness := (true, "0af4eb29060dca3c083c95ff44102c3f414877d7d141978114d7902742fb244f"), looks := true }, kinds := [], alts := [], laidByText := true, laidKinds := [.data, .data, .data, .data, .sentinel, .sentinel, .pinned], laidTests := true, laidLooks := .later }
def VmShortCardSaid : Prop := Claim7.holds Tryz.pinned (.plain (OpenSpec.ofChange vmShortSpec)) vmShortCard

/-- THE TIED CARD OF 'codicillaw14.VmFuel'. -/
def vmFuelCard : Claim7 := { stood := { row := vmFuelRow, standIns := [], harness := (true, "0af4eb29060dca3c083c95ff44102c3f414877d7d141978114d7902742fb244f"), looks := true }, kinds := [], alts := [], laidByText := true, laidKinds := [.data, .data, .data, .data, .sentinel, .sentinel, .pinned], laidTests := true, laidLooks := .later }
def VmFuelCardSaid : Prop := Claim7.holds Tryz.pinned (.plain (OpenSpec.ofChange vmFuelSpec)) vmFuelCard

/-- THE TIED CARD OF 'codicillaw14.VmAgrees'. -/
def vmAgreesCard : Claim7 := { stood := { row := vmAgreesRow, standIns := [], harness := (true, "0af4eb29060dca3c083c95ff44102c3f414877d7d141978114d7902742fb244f"), looks := true }, kinds := [], alts := [], laidByText := true, laidKinds := [.data, .data, .data, .data, .sentinel, .sentinel, .pinned], laidTests := true, laidLooks := .later }
def VmAgreesCardSaid : Prop := Claim7.holds Tryz.pinned (.plain (OpenSpec.ofChange vmAgreesSpec)) vmAgreesCard

/-- THE TIED CARD OF 'codicillaw14.VmSteps'. -/
def vmStepsCard : Claim7 := { stood := { row := vmStepsRow, standIns := [], harness := (true, "0af4eb29060dca3c083c95ff44102c3f414877d7d141978114d7902742fb244f"), looks := true }, kinds := [], alts := [], laidByText := true, laidKinds := [.data, .data, .data, .data, .sentinel, .sentinel, .pinned], laidTests := true, laidLooks := .later }
def VmStepsCardSaid : Prop := Claim7.holds Tryz.pinned (.plain (OpenSpec.ofChange vmStepsSpec)) vmStepsCard

/-- THE SECOND FORM's CARD OF 'codicillaw11.ExprLogic'. -/
def exprLogicUptoCard : Claim7 := { stood := { row := exprLogicUptoRow, standIns := [], harness := (true, "0af4eb29060dca3c083c95ff44102c3f414877d7d141978114d7902742fb244f"), looks := true }, kinds := [], alts := [], laidByText := true, laidKinds := [.data, .data, .data, .data, .sentinel, .sentinel, .pinned], laidTests := true, laidLooks := .later }
def ExprLogicUptoCardSaid : Prop := Claim7.holds Tryz.pinned (.plain (OpenSpec.upto exprLogicSpec)) exprLogicUptoCard

/-- THE SECOND FORM's CARD OF 'codicillaw14.VmShort'. -/
def vmShortUptoCard : Claim7 := { stood := { row := vmShortUptoRow, standIns := [], harness := (true, "0af4eb29060dca3c083c95ff44102c3f414877d7d141978114d7902742fb244f"), looks := true }, kinds := [], alts := [], laidByText := true, laidKinds := [.data, .data, .data, .data, .sentinel, .sentinel, .pinned], laidTests := true, laidLooks := .later }
def VmShortUptoCardSaid : Prop := Claim7.holds Tryz.pinned (.plain (OpenSpec.upto vmShortSpec)) vmShortUptoCard

/-- THE SECOND FORM's CARD OF 'codicillaw14.VmFuel'. -/
def vmFuelUptoCard : Claim7 := { stood := { row := vmFuelUptoRow, standIns := [], harness := (true, "0af4eb29060dca3c083c95ff44102c3f414877d7d141978114d7902742fb244f"), looks := true }, kinds := [], alts := [], laidByText := true, laidKinds := [.data, .data, .data, .data, .sentinel, .sentinel, .pinned], laidTests := true, laidLooks := .later }
def VmFuelUptoCardSaid : Prop := Claim7.holds Tryz.pinned (.plain (OpenSpec.upto vmFuelSpec)) vmFuelUptoCard

/-- THE SECOND FORM's CARD OF 'codicillaw14.VmAgrees'. -/
def vmAgreesUptoCard : Claim7 := { stood := { row := vmAgreesUptoRow, standIns := [], harness := (true, "0af4eb29060dca3c083c95ff44102c3f414877d7d141978114d7902742fb244f"), looks := true }, kinds := [], alts := [], laidByText := true, laidKinds := [.data, .data, .data, .data, .sentinel, .sentinel, .pinned], laidTests := true, laidLooks := .later }
def VmAgreesUptoCardSaid : Prop := Claim7.holds Tryz.pinned (.plain (OpenSpec.upto vmAgreesSpec)) vmAgreesUptoCard

/-- THE SECOND FORM's CARD OF 'codicillaw14.VmSteps'. -/
def vmStepsUptoCard : Claim7 := { stood := { row := vmStepsUptoRow, standIns := [], harness := (true, "0af4eb29060dca3c083c95ff44102c3f414877d7d141978114d7902742fb244f"), looks := true }, kinds := [], alts := [], laidByText := true, laidKinds := [.data, .data, .data, .data, .sentinel, .sentinel, .pinned], laidTests := true, laidLooks := .later }
def VmStepsUptoCardSaid : Prop := Claim7.holds Tryz.pinned (.plain (OpenSpec.upto vmStepsSpec)) vmStepsUptoCard
end Rows
end Go.Proofs.YtbemgcjckchdjaaGreatDoor
