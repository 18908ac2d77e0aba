/-
  DERIVED. GIVEN WITH THE SEED: THE CARDS: each row of YtljfjiaiachbfaaDoorRows.lean that lists a variable, with what it lists TIED to the program's text (the seventh form; the later family's looks); each row that meets fmt, with fmt's text TOLD by the authors' own Lean function (tested against real Go, not proved from fmt's source: count such statements apart). THE CARD IS WHAT COUNTS. Prove the row's statement (the work); the ties are given (YtljfjiaiachbfaaDoorTie.lean); close each card by the builder's one call (the guide's Derived/Test/ToyasCard.lean, 'card_holds'). Laid BY PROGRAM, IN A SANDBOX (cutbox-door.mjs). By AI agents, Wed Nov 11 2026. No macro, syntax, notation, axiom, sorry.
-/
import Derived.Test.YtljfjiaiachbfaaDoorRows
import GoSem.ClaimSeven
namespace Go.Proofs.YtljfjiaiachbfaaDoor
namespace Rows

/-- THE TIED CARD OF 'orpimentlaw40.GuardianServes'. -/
def guardianServesCard : Claim7 := { stood := { row := guardianServesRow, standIns := [], harness := (true, "119488b951fd5361dba8addb7ffa986fd622d1d6d0bba1eba5c15e1470451511"), looks := true }, kinds := [], alts := [], laidByText := true, laidKinds := [.funcs], laidTests := true, laidLooks := .later }
def GuardianServesCardSaid : Prop := Claim7.holds Tryd.pinned (.plain (OpenSpec.ofChange guardianServesSpec)) guardianServesCard

/-- THE TIED CARD OF 'orpimentlaw40.GuardianRecovers'. -/
def guardianRecoversCard : Claim7 := { stood := { row := guardianRecoversRow, standIns := [], harness := (true, "119488b951fd5361dba8addb7ffa986fd622d1d6d0bba1eba5c15e1470451511"), looks := true }, kinds := [], alts := [], laidByText := true, laidKinds := [.funcs], laidTests := true, laidLooks := .later }
def GuardianRecoversCardSaid : Prop := Claim7.holds Tryd.pinned (.plain (OpenSpec.ofChange guardianRecoversSpec)) guardianRecoversCard

/-- THE TIED CARD OF 'orpimentlaw40.GuardianOnce'. -/
def guardianOnceCard : Claim7 := { stood := { row := guardianOnceRow, standIns := [], harness := (true, "119488b951fd5361dba8addb7ffa986fd622d1d6d0bba1eba5c15e1470451511"), looks := true }, kinds := [], alts := [], laidByText := true, laidKinds := [.funcs], laidTests := true, laidLooks := .later }
def GuardianOnceCardSaid : Prop := Claim7.holds Tryd.pinned (.plain (OpenSpec.ofChange guardianOnceSpec)) guardianOnceCard

/-- THE SECOND FORM's CARD OF 'orpimentlaw40.GuardianServes'. -/
def guardianServesUptoCard : Claim7 := { stood := { row := guardianServesUptoRow, standIns := [], harness := (true, "119488b951fd5361dba8addb7ffa986fd622d1d6d0bba1eba5c15e1470451511"), looks := true }, kinds := [], alts := [], laidByText := true, laidKinds := [.funcs], laidTests := true, laidLooks := .later }
def GuardianServesUptoCardSaid : Prop := Claim7.holds Tryd.pinned (.plain (OpenSpec.upto guardianServesSpec)) guardianServesUptoCard

/-- THE SECOND FORM's CARD OF 'orpimentlaw40.GuardianRecovers'. -/
def guardianRecoversUptoCard : Claim7 := { stood := { row := guardianRecoversUptoRow, standIns := [], harness := (true, "119488b951fd5361dba8addb7ffa986fd622d1d6d0bba1eba5c15e1470451511"), looks := true }, kinds := [], alts := [], laidByText := true, laidKinds := [.funcs], laidTests := true, laidLooks := .later }
def GuardianRecoversUptoCardSaid : Prop := Claim7.holds Tryd.pinned (.plain (OpenSpec.upto guardianRecoversSpec)) guardianRecoversUptoCard

/-- THE SECOND FORM's CARD OF 'orpimentlaw40.GuardianOnce'. -/
def guardianOnceUptoCard : Claim7 := { stood := { row := guardianOnceUptoRow, standIns := [], harness := (true, "119488b951fd5361dba8addb7ffa986fd622d1d6d0bba1eba5c15e1470451511"), looks := true }, kinds := [], alts := [], laidByText := true, laidKinds := [.funcs], laidTests := true, laidLooks := .later }
def GuardianOnceUptoCardSaid : Prop := Claim7.holds Tryd.pinned (.plain (OpenSpec.upto guardianOnceSpec)) guardianOnceUptoCard
end Rows
end Go.Proofs.YtljfjiaiachbfaaDoor
