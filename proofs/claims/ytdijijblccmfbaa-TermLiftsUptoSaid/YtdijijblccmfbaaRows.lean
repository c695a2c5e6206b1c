/-
  NARROWER THAN 'FOR EVERY INPUT', by the rows' own cells (each row's printed sentence says how): TermLifts: loops · TeleSpine: loops · TeleBack: loops · TermChecks: loops · TermSame: loops · TermLaws: loops · TermLevels: loops.
  DERIVED. THE GIVEN ROWS OF THIS SEAT. 9 by the template 'for every input the law returns true; each argument reads behind the call as it read before'; 0 by the template 'total and deterministic' (their statements: YtdijijblccmfbaaTotals.lean).
  GIVEN WITH THE SEED: the statements are not yours to turn. If you find one false, say at which input.
  Laid BY PROGRAM, IN A SANDBOX (cutbox-rows.mjs): the forced cells as the released guide's own fill.sh prints them over the translation 161699c5e04e41db… (all of the seat's roots in one cut). By AI agents, Wed Nov 11 2026. No macro, syntax, notation, axiom, sorry.
-/
import Derived.Test.YtdijijblccmfbaaChecked
import GoSem.Claim
import GoSem.ClaimJoined
import GoSem.ClaimMapViews
import Derived.JoinedTies
import Derived.KernelRfl
namespace Go.Proofs.Ytdijijblccmfbaa
/- THE CELL 'sum', in the pinned program and in every row, IS THE sha256 OF THE DUMP (.gsa) THAT YtdijijblccmfbaaProg.lean LOADS. Nothing in Lean hashes anything: it is a label: what it is worth is what the hold of that sum in a sandbox is worth. -/
noncomputable def Try.pinned : Pinned := { name := "ytdijijblccmfbaa", sum := "161699c5e04e41dbfdbc50ea74ff28fea8f4787324ec7860789eaca546a822cb", checked := Try.checked }
namespace Rows
def none {H : Type} : Left H := { results := [], args := [] }

/-- 'telamonlaw2.TermLifts': WHATEVER THE INPUT: true; the input reads as it did. -/
def termLiftsSpec : ChangeSpec := { name := "termLifts", fn := fun _ => fun
  | [d1, d2, d3] => { results := [.lit (.bool true)], args := [d1, d2, d3] }
  | _ => none }
def termLiftsRow : OpenClaim := { program := "ytdijijblccmfbaa", sum := "161699c5e04e41dbfdbc50ea74ff28fea8f4787324ec7860789eaca546a822cb", func := "telamon/telamonlaw2.TermLifts", spec := "termLifts", unfollowed := true, recurses := true, loops := true, apart := false }
def TermLiftsSaid : Prop := termLiftsRow.holds Try.pinned (OpenSpec.ofChange termLiftsSpec)

/-- ITS FALSE NEIGHBOUR: 'it returns false'. Refute it at one input. -/
def termLiftsWrong : ChangeSpec := { name := "termLifts", fn := fun _ => fun
  | [d1, d2, d3] => { results := [.lit (.bool false)], args := [d1, d2, d3] }
  | _ => none }
def TermLiftsWrongFalsely : Prop := termLiftsRow.holds Try.pinned (OpenSpec.ofChange termLiftsWrong)

/-- 'telamonlaw2.TermLong': WHATEVER THE INPUT: true; the input reads as it did. -/
def termLongSpec : ChangeSpec := { name := "termLong", fn := fun _ => fun
  | [d1, d2] => { results := [.lit (.bool true)], args := [d1, d2] }
  | _ => none }
def termLongRow : OpenClaim := { program := "ytdijijblccmfbaa", sum := "161699c5e04e41dbfdbc50ea74ff28fea8f4787324ec7860789eaca546a822cb", func := "telamon/telamonlaw2.TermLong", spec := "termLong", unfollowed := true, recurses := true, apart := false }
def TermLongSaid : Prop := termLongRow.holds Try.pinned (OpenSpec.ofChange termLongSpec)

/-- ITS FALSE NEIGHBOUR: 'it returns false'. Refute it at one input. -/
def termLongWrong : ChangeSpec := { name := "termLong", fn := fun _ => fun
  | [d1, d2] => { results := [.lit (.bool false)], args := [d1, d2] }
  | _ => none }
def TermLongWrongFalsely : Prop := termLongRow.holds Try.pinned (OpenSpec.ofChange termLongWrong)

/-- 'telamonlaw4.TeleSpine': WHATEVER THE INPUT: true; the input reads as it did. -/
def teleSpineSpec : ChangeSpec := { name := "teleSpine", fn := fun _ => fun
  | [d] => { results := [.lit (.bool true)], args := [d] }
  | _ => none }
def teleSpineRow : OpenClaim := { program := "ytdijijblccmfbaa", sum := "161699c5e04e41dbfdbc50ea74ff28fea8f4787324ec7860789eaca546a822cb", func := "telamon/telamonlaw4.TeleSpine", spec := "teleSpine", unfollowed := true, recurses := true, loops := true, apart := false }
def TeleSpineSaid : Prop := teleSpineRow.holds Try.pinned (OpenSpec.ofChange teleSpineSpec)

/-- ITS FALSE NEIGHBOUR: 'it returns false'. Refute it at one input. -/
def teleSpineWrong : ChangeSpec := { name := "teleSpine", fn := fun _ => fun
  | [d] => { results := [.lit (.bool false)], args := [d] }
  | _ => none }
def TeleSpineWrongFalsely : Prop := teleSpineRow.holds Try.pinned (OpenSpec.ofChange teleSpineWrong)

/-- 'telamonlaw4.TeleBack': WHATEVER THE INPUT: true; the input reads as it did. -/
def teleBackSpec : ChangeSpec := { name := "teleBack", fn := fun _ => fun
  | [d1, d2, d3] => { results := [.lit (.bool true)], args := [d1, d2, d3] }
  | _ => none }
def teleBackRow : OpenClaim := { program := "ytdijijblccmfbaa", sum := "161699c5e04e41dbfdbc50ea74ff28fea8f4787324ec7860789eaca546a822cb", func := "telamon/telamonlaw4.TeleBack", spec := "teleBack", unfollowed := true, recurses := true, loops := true, apart := false }
def TeleBackSaid : Prop := teleBackRow.holds Try.pinned (OpenSpec.ofChange teleBackSpec)

/-- ITS FALSE NEIGHBOUR: 'it returns false'. Refute it at one input. -/
def teleBackWrong : ChangeSpec := { name := "teleBack", fn := fun _ => fun
  | [d1, d2, d3] => { results := [.lit (.bool false)], args := [d1, d2, d3] }
  | _ => none }
def TeleBackWrongFalsely : Prop := teleBackRow.holds Try.pinned (OpenSpec.ofChange teleBackWrong)

/-- 'telamonlaw2.TermChecks': WHATEVER THE INPUT: true; the input reads as it did. -/
def termChecksSpec : ChangeSpec := { name := "termChecks", fn := fun _ => fun
  | [d1, d2] => { results := [.lit (.bool true)], args := [d1, d2] }
  | _ => none }
def termChecksRow : OpenClaim := { program := "ytdijijblccmfbaa", sum := "161699c5e04e41dbfdbc50ea74ff28fea8f4787324ec7860789eaca546a822cb", func := "telamon/telamonlaw2.TermChecks", spec := "termChecks", unfollowed := true, recurses := true, loops := true, apart := false }
def TermChecksSaid : Prop := termChecksRow.holds Try.pinned (OpenSpec.ofChange termChecksSpec)

/-- ITS FALSE NEIGHBOUR: 'it returns false'. Refute it at one input. -/
def termChecksWrong : ChangeSpec := { name := "termChecks", fn := fun _ => fun
  | [d1, d2] => { results := [.lit (.bool false)], args := [d1, d2] }
  | _ => none }
def TermChecksWrongFalsely : Prop := termChecksRow.holds Try.pinned (OpenSpec.ofChange termChecksWrong)

/-- 'telamonlaw2.TermSame': WHATEVER THE INPUT: true; the input reads as it did. -/
def termSameSpec : ChangeSpec := { name := "termSame", fn := fun _ => fun
  | [d1, d2] => { results := [.lit (.bool true)], args := [d1, d2] }
  | _ => none }
def termSameRow : OpenClaim := { program := "ytdijijblccmfbaa", sum := "161699c5e04e41dbfdbc50ea74ff28fea8f4787324ec7860789eaca546a822cb", func := "telamon/telamonlaw2.TermSame", spec := "termSame", unfollowed := true, recurses := true, loops := true, apart := false }
def TermSameSaid : Prop := termSameRow.holds Try.pinned (OpenSpec.ofChange termSameSpec)

/-- ITS FALSE NEIGHBOUR: 'it returns false'. Refute it at one input. -/
def termSameWrong : ChangeSpec := { name := "termSame", fn := fun _ => fun
  | [d1, d2] => { results := [.lit (.bool false)], args := [d1, d2] }
  | _ => none }
def TermSameWrongFalsely : Prop := termSameRow.holds Try.pinned (OpenSpec.ofChange termSameWrong)

/-- 'telamonlaw2.TermLaws': WHATEVER THE INPUT: true; the input reads as it did. -/
def termLawsSpec : ChangeSpec := { name := "termLaws", fn := fun _ => fun
  | [d1, d2, d3] => { results := [.lit (.bool true)], args := [d1, d2, d3] }
  | _ => none }
def termLawsRow : OpenClaim := { program := "ytdijijblccmfbaa", sum := "161699c5e04e41dbfdbc50ea74ff28fea8f4787324ec7860789eaca546a822cb", func := "telamon/telamonlaw2.TermLaws", spec := "termLaws", unfollowed := true, recurses := true, loops := true, apart := false }
def TermLawsSaid : Prop := termLawsRow.holds Try.pinned (OpenSpec.ofChange termLawsSpec)

/-- ITS FALSE NEIGHBOUR: 'it returns false'. Refute it at one input. -/
def termLawsWrong : ChangeSpec := { name := "termLaws", fn := fun _ => fun
  | [d1, d2, d3] => { results := [.lit (.bool false)], args := [d1, d2, d3] }
  | _ => none }
def TermLawsWrongFalsely : Prop := termLawsRow.holds Try.pinned (OpenSpec.ofChange termLawsWrong)

/-- 'telamonlaw17.MetasChain': WHATEVER THE INPUT: true; the input reads as it did. -/
def metasChainSpec : ChangeSpec := { name := "metasChain", fn := fun _ => fun
  | [d1, d2] => { results := [.lit (.bool true)], args := [d1, d2] }
  | _ => none }
def metasChainRow : OpenClaim := { program := "ytdijijblccmfbaa", sum := "161699c5e04e41dbfdbc50ea74ff28fea8f4787324ec7860789eaca546a822cb", func := "telamon/telamonlaw17.MetasChain", spec := "metasChain", unfollowed := true, recurses := true, apart := false }
def MetasChainSaid : Prop := metasChainRow.holds Try.pinned (OpenSpec.ofChange metasChainSpec)

/-- ITS FALSE NEIGHBOUR: 'it returns false'. Refute it at one input. -/
def metasChainWrong : ChangeSpec := { name := "metasChain", fn := fun _ => fun
  | [d1, d2] => { results := [.lit (.bool false)], args := [d1, d2] }
  | _ => none }
def MetasChainWrongFalsely : Prop := metasChainRow.holds Try.pinned (OpenSpec.ofChange metasChainWrong)

/-- 'telamonlaw2.TermLevels': WHATEVER THE INPUT: true; the input reads as it did. -/
def termLevelsSpec : ChangeSpec := { name := "termLevels", fn := fun _ => fun
  | [d1, d2] => { results := [.lit (.bool true)], args := [d1, d2] }
  | _ => none }
def termLevelsRow : OpenClaim := { program := "ytdijijblccmfbaa", sum := "161699c5e04e41dbfdbc50ea74ff28fea8f4787324ec7860789eaca546a822cb", func := "telamon/telamonlaw2.TermLevels", spec := "termLevels", unfollowed := true, recurses := true, loops := true, apart := false }
def TermLevelsSaid : Prop := termLevelsRow.holds Try.pinned (OpenSpec.ofChange termLevelsSpec)

/-- ITS FALSE NEIGHBOUR: 'it returns false'. Refute it at one input. -/
def termLevelsWrong : ChangeSpec := { name := "termLevels", fn := fun _ => fun
  | [d1, d2] => { results := [.lit (.bool false)], args := [d1, d2] }
  | _ => none }
def TermLevelsWrongFalsely : Prop := termLevelsRow.holds Try.pinned (OpenSpec.ofChange termLevelsWrong)

/- THE SECOND FORM. 'bulk': how many values and letters a reading holds, each counted each time it is reached (what is shared counts as often as it is met; a slice's spare places count too). A statement '..UptoSaid' is the law's where the arguments, and the package variables that the reading takes, are together of bulk at most 1048576: NARROWER than '..Said'. Prove '..Said' where nothing that the law and all that it calls make is longer than what came in: it says more and counts as full. Else prove '..UptoSaid'. A law counts once. -/
mutual
def uptoBulk {H : Type} : DataW H → Nat
  | .lit (.string bytes) => bytes.length + 1
  | .lit _ => 1
  | .nil => 1
  | .ptr d => uptoBulk d + 1
  | .slice elems spare => uptoBulkAll elems + uptoBulkAll spare + 1
  | .agg parts => uptoBulkAll parts + 1
  | .iface _ d => uptoBulk d + 1
  | .map entries => uptoBulkEntries entries + 1
  | .held _ => 1
def uptoBulkAll {H : Type} : List (DataW H) → Nat
  | [] => 0
  | d :: r => uptoBulk d + uptoBulkAll r
def uptoBulkEntries {H : Type} : List (Lit × DataW H) → Nat
  | [] => 0
  | x :: r => uptoBulkEntry x + uptoBulkEntries r
def uptoBulkEntry {H : Type} : Lit × DataW H → Nat
  | (.string bytes, d) => bytes.length + uptoBulk d + 1
  | (_, d) => uptoBulk d + 1
 end
def uptoSmall : (H : Type) → List (DataW H) → Bool := fun _ ds => decide (uptoBulkAll ds ≤ 1048576)
def OpenSpec.upto (s : _root_.Go.ChangeSpec) : _root_.Go.OpenSpec := { _root_.Go.OpenSpec.ofChange s with cond := some uptoSmall }

/-- 'telamonlaw2.TermLifts', WHERE WHAT IT READS IS OF BULK AT MOST 1048576: true; the input reads as it did. -/
def termLiftsUptoRow : OpenClaim := { program := "ytdijijblccmfbaa", sum := "161699c5e04e41dbfdbc50ea74ff28fea8f4787324ec7860789eaca546a822cb", func := "telamon/telamonlaw2.TermLifts", spec := "termLifts", unfollowed := true, recurses := true, loops := true, apart := false, narrowed := true }
def TermLiftsUptoSaid : Prop := termLiftsUptoRow.holds Try.pinned (OpenSpec.upto termLiftsSpec)

/-- 'telamonlaw2.TermLong', WHERE WHAT IT READS IS OF BULK AT MOST 1048576: true; the input reads as it did. -/
def termLongUptoRow : OpenClaim := { program := "ytdijijblccmfbaa", sum := "161699c5e04e41dbfdbc50ea74ff28fea8f4787324ec7860789eaca546a822cb", func := "telamon/telamonlaw2.TermLong", spec := "termLong", unfollowed := true, recurses := true, apart := false, narrowed := true }
def TermLongUptoSaid : Prop := termLongUptoRow.holds Try.pinned (OpenSpec.upto termLongSpec)

/-- 'telamonlaw4.TeleSpine', WHERE WHAT IT READS IS OF BULK AT MOST 1048576: true; the input reads as it did. -/
def teleSpineUptoRow : OpenClaim := { program := "ytdijijblccmfbaa", sum := "161699c5e04e41dbfdbc50ea74ff28fea8f4787324ec7860789eaca546a822cb", func := "telamon/telamonlaw4.TeleSpine", spec := "teleSpine", unfollowed := true, recurses := true, loops := true, apart := false, narrowed := true }
def TeleSpineUptoSaid : Prop := teleSpineUptoRow.holds Try.pinned (OpenSpec.upto teleSpineSpec)

/-- 'telamonlaw4.TeleBack', WHERE WHAT IT READS IS OF BULK AT MOST 1048576: true; the input reads as it did. -/
def teleBackUptoRow : OpenClaim := { program := "ytdijijblccmfbaa", sum := "161699c5e04e41dbfdbc50ea74ff28fea8f4787324ec7860789eaca546a822cb", func := "telamon/telamonlaw4.TeleBack", spec := "teleBack", unfollowed := true, recurses := true, loops := true, apart := false, narrowed := true }
def TeleBackUptoSaid : Prop := teleBackUptoRow.holds Try.pinned (OpenSpec.upto teleBackSpec)

/-- 'telamonlaw2.TermChecks', WHERE WHAT IT READS IS OF BULK AT MOST 1048576: true; the input reads as it did. -/
def termChecksUptoRow : OpenClaim := { program := "ytdijijblccmfbaa", sum := "161699c5e04e41dbfdbc50ea74ff28fea8f4787324ec7860789eaca546a822cb", func := "telamon/telamonlaw2.TermChecks", spec := "termChecks", unfollowed := true, recurses := true, loops := true, apart := false, narrowed := true }
def TermChecksUptoSaid : Prop := termChecksUptoRow.holds Try.pinned (OpenSpec.upto termChecksSpec)

/-- 'telamonlaw2.TermSame', WHERE WHAT IT READS IS OF BULK AT MOST 1048576: true; the input reads as it did. -/
def termSameUptoRow : OpenClaim := { program := "ytdijijblccmfbaa", sum := "161699c5e04e41dbfdbc50ea74ff28fea8f4787324ec7860789eaca546a822cb", func := "telamon/telamonlaw2.TermSame", spec := "termSame", unfollowed := true, recurses := true, loops := true, apart := false, narrowed := true }
def TermSameUptoSaid : Prop := termSameUptoRow.holds Try.pinned (OpenSpec.upto termSameSpec)

/-- 'telamonlaw2.TermLaws', WHERE WHAT IT READS IS OF BULK AT MOST 1048576: true; the input reads as it did. -/
def termLawsUptoRow : OpenClaim := { program := "ytdijijblccmfbaa", sum := "161699c5e04e41dbfdbc50ea74ff28fea8f4787324ec7860789eaca546a822cb", func := "telamon/telamonlaw2.TermLaws", spec := "termLaws", unfollowed := true, recurses := true, loops := true, apart := false, narrowed := true }
def TermLawsUptoSaid : Prop := termLawsUptoRow.holds Try.pinned (OpenSpec.upto termLawsSpec)

/-- 'telamonlaw17.MetasChain', WHERE WHAT IT READS IS OF BULK AT MOST 1048576: true; the input reads as it did. -/
def metasChainUptoRow : OpenClaim := { program := "ytdijijblccmfbaa", sum := "161699c5e04e41dbfdbc50ea74ff28fea8f4787324ec7860789eaca546a822cb", func := "telamon/telamonlaw17.MetasChain", spec := "metasChain", unfollowed := true, recurses := true, apart := false, narrowed := true }
def MetasChainUptoSaid : Prop := metasChainUptoRow.holds Try.pinned (OpenSpec.upto metasChainSpec)

/-- 'telamonlaw2.TermLevels', WHERE WHAT IT READS IS OF BULK AT MOST 1048576: true; the input reads as it did. -/
def termLevelsUptoRow : OpenClaim := { program := "ytdijijblccmfbaa", sum := "161699c5e04e41dbfdbc50ea74ff28fea8f4787324ec7860789eaca546a822cb", func := "telamon/telamonlaw2.TermLevels", spec := "termLevels", unfollowed := true, recurses := true, loops := true, apart := false, narrowed := true }
def TermLevelsUptoSaid : Prop := termLevelsUptoRow.holds Try.pinned (OpenSpec.upto termLevelsSpec)

end Rows
end Go.Proofs.Ytdijijblccmfbaa
