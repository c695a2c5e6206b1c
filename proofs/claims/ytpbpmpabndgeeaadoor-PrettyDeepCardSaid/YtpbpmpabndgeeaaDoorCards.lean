/-
  DERIVED. GIVEN WITH THE SEED: THE CARDS: each row of YtpbpmpabndgeeaaDoorRows.lean that lists a variable, with what it lists TIED to the program's text (the seventh form; the later family's looks); each row that meets fmt, with fmt's text TOLD by the authors' own Lean function (tested against real Go, not proved from fmt's source: count such statements apart). THE CARD IS WHAT COUNTS. Prove the row's statement (the work); the ties are given (YtpbpmpabndgeeaaDoorTie.lean); close each card by the builder's one call (the guide's Derived/Test/ToyasCard.lean, 'card_holds'). Laid BY PROGRAM, IN A SANDBOX (cutbox-door.mjs). By AI agents, Wed Nov 11 2026. No macro, syntax, notation, axiom, sorry.
-/
import Derived.Test.YtpbpmpabndgeeaaDoorRows
import GoSem.ClaimSeven
namespace Go.Proofs.YtpbpmpabndgeeaaDoor
namespace Rows

/-- THE TIED CARD OF 'telamonlaw25.PrettyDeep'. -/
def prettyDeepCard : Claim7 := { stood := { row := prettyDeepRow, standIns := [], harness := (true, "2f1748a506eb75b58a2f9db195cab0288857b8c287e529567833ff7c5e5a2156"), looks := false }, kinds := [], alts := [], laidByText := true, laidKinds := [.data, .data, .data], laidTests := true, laidLooks := .later }
def PrettyDeepCardSaid : Prop := Claim7.holds Tryd.pinned (.plain (OpenSpec.ofChange prettyDeepSpec)) prettyDeepCard

/-- THE SECOND FORM's CARD OF 'telamonlaw25.PrettyDeep'. -/
def prettyDeepUptoCard : Claim7 := { stood := { row := prettyDeepUptoRow, standIns := [], harness := (true, "2f1748a506eb75b58a2f9db195cab0288857b8c287e529567833ff7c5e5a2156"), looks := false }, kinds := [], alts := [], laidByText := true, laidKinds := [.data, .data, .data], laidTests := true, laidLooks := .later }
def PrettyDeepUptoCardSaid : Prop := Claim7.holds Tryd.pinned (.plain (OpenSpec.upto prettyDeepSpec)) prettyDeepUptoCard
end Rows
end Go.Proofs.YtpbpmpabndgeeaaDoor
