/-
  DERIVED. GIVEN WITH THE SEED: THE CARDS: each row of YtpbpmpabndgeeaaGreatDoorRows.lean that lists a variable, with what it lists TIED to the program's text (the seventh form; the later family's looks); each row that meets fmt, with fmt's text TOLD by the authors' own Lean function (tested against real Go, not proved from fmt's source: count such statements apart). THE CARD IS WHAT COUNTS. Prove the row's statement (the work); the ties are given (YtpbpmpabndgeeaaGreatDoorTie.lean); close each card by the builder's one call (the guide's Derived/Test/ToyasCard.lean, 'card_holds'). Laid BY PROGRAM, IN A SANDBOX (cutbox-door.mjs). By AI agents, Wed Nov 11 2026. No macro, syntax, notation, axiom, sorry.
-/
import Derived.Test.YtpbpmpabndgeeaaGreatDoorRows
import GoSem.ClaimSeven
namespace Go.Proofs.YtpbpmpabndgeeaaGreatDoor
namespace Rows

/-- THE TIED CARD OF 'telamonlaw15.FixForms'. -/
def fixFormsCard : Claim7 := { stood := { row := fixFormsRow, standIns := [], harness := (true, "a873482e49a23e6ce602218b8e91893bd9e83890a0e41257ee0d58a7642b40a8"), looks := true }, kinds := [], alts := [], laidByText := true, laidKinds := [.handle], laidTests := true, laidLooks := .later }
def FixFormsCardSaid : Prop := Claim7.holds Tryz.pinned (.plain (OpenSpec.ofChange fixFormsSpec)) fixFormsCard

/-- THE TIED CARD OF 'telamonlaw15.FixTwo'. -/
def fixTwoCard : Claim7 := { stood := { row := fixTwoRow, standIns := [], harness := (true, "a873482e49a23e6ce602218b8e91893bd9e83890a0e41257ee0d58a7642b40a8"), looks := true }, kinds := [], alts := [], laidByText := true, laidKinds := [.handle], laidTests := true, laidLooks := .later }
def FixTwoCardSaid : Prop := Claim7.holds Tryz.pinned (.plain (OpenSpec.ofChange fixTwoSpec)) fixTwoCard

/-- THE TIED CARD OF 'telamonlaw15.FixNested'. -/
def fixNestedCard : Claim7 := { stood := { row := fixNestedRow, standIns := [], harness := (true, "a873482e49a23e6ce602218b8e91893bd9e83890a0e41257ee0d58a7642b40a8"), looks := true }, kinds := [], alts := [], laidByText := true, laidKinds := [.handle], laidTests := true, laidLooks := .later }
def FixNestedCardSaid : Prop := Claim7.holds Tryz.pinned (.plain (OpenSpec.ofChange fixNestedSpec)) fixNestedCard

/-- THE SECOND FORM's CARD OF 'telamonlaw15.FixForms'. -/
def fixFormsUptoCard : Claim7 := { stood := { row := fixFormsUptoRow, standIns := [], harness := (true, "a873482e49a23e6ce602218b8e91893bd9e83890a0e41257ee0d58a7642b40a8"), looks := true }, kinds := [], alts := [], laidByText := true, laidKinds := [.handle], laidTests := true, laidLooks := .later }
def FixFormsUptoCardSaid : Prop := Claim7.holds Tryz.pinned (.plain (OpenSpec.upto fixFormsSpec)) fixFormsUptoCard

/-- THE SECOND FORM's CARD OF 'telamonlaw15.FixTwo'. -/
def fixTwoUptoCard : Claim7 := { stood := { row := fixTwoUptoRow, standIns := [], harness := (true, "a873482e49a23e6ce602218b8e91893bd9e83890a0e41257ee0d58a7642b40a8"), looks := true }, kinds := [], alts := [], laidByText := true, laidKinds := [.handle], laidTests := true, laidLooks := .later }
def FixTwoUptoCardSaid : Prop := Claim7.holds Tryz.pinned (.plain (OpenSpec.upto fixTwoSpec)) fixTwoUptoCard

/-- THE SECOND FORM's CARD OF 'telamonlaw15.FixNested'. -/
def fixNestedUptoCard : Claim7 := { stood := { row := fixNestedUptoRow, standIns := [], harness := (true, "a873482e49a23e6ce602218b8e91893bd9e83890a0e41257ee0d58a7642b40a8"), looks := true }, kinds := [], alts := [], laidByText := true, laidKinds := [.handle], laidTests := true, laidLooks := .later }
def FixNestedUptoCardSaid : Prop := Claim7.holds Tryz.pinned (.plain (OpenSpec.upto fixNestedSpec)) fixNestedUptoCard
end Rows
end Go.Proofs.YtpbpmpabndgeeaaGreatDoor
