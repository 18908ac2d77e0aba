/-
  NARROWER THAN 'FOR EVERY INPUT', by the rows' own cells (each row's printed sentence says how): GuardianServes: laid · GuardianRecovers: laid · GuardianOnce: laid.
  DERIVED. THE GIVEN ROWS OF THIS SEAT. 3 by the template 'for every input the law returns true; each argument reads behind the call as it read before'; 0 by the template 'total and deterministic' (their statements: YtljfjiaiachbfaaDoorTotals.lean).
  GIVEN WITH THE SEED: the statements are not yours to turn. If you find one false, say at which input.
  Laid BY PROGRAM, IN A SANDBOX (cutbox-rows.mjs): the forced cells as the released guide's own fill.sh prints them over the translation 2ec72fc0ae1e363d… (all of the seat's roots in one cut). By AI agents, Wed Nov 11 2026. No macro, syntax, notation, axiom, sorry.
-/
import Derived.Test.YtljfjiaiachbfaaDoorChecked
import GoSem.Claim
import GoSem.ClaimJoined
import GoSem.ClaimMapViews
import Derived.JoinedTies
import Derived.KernelRfl
namespace Go.Proofs.YtljfjiaiachbfaaDoor
/- THE CELL 'sum', in the pinned program and in every row, IS THE sha256 OF THE DUMP (.gsa) THAT YtljfjiaiachbfaaDoorProg.lean LOADS. Nothing in Lean hashes anything: it is a label: what it is worth is what the hold of that sum in a sandbox is worth. -/
noncomputable def Tryd.pinned : Pinned := { name := "ytljfjiaiachbfaadoor", sum := "2ec72fc0ae1e363d97ff74e3791de93f26db6d30f9c5ad51db91798a5379203e", checked := Tryd.checked }
namespace Rows
def none {H : Type} : Left H := { results := [], args := [] }

/- WHAT THE LISTED PACKAGE-LEVEL VARIABLES READ AS WHEN THE CALL BEGINS. Each datum BY PROGRAM (the guide's laid-datum.mjs) off the statement by which the dump's own 'gosem.cut.vars' lays the variable. In a bare row this is a premise. The card (YtljfjiaiachbfaaDoorCards.lean) ties it to the program's text. -/
def laid_orpiment_guardian_fields {H : Type} : DataW H := .iface "func table" (.agg [.iface "func" (.lit (.string [40, 111, 114, 112, 105, 109, 101, 110, 116, 47, 103, 117, 97, 114, 100, 105, 97, 110, 46, 65, 99, 116, 105, 111, 110, 41, 46, 98, 97, 114, 101])), .iface "func" (.lit (.string [40, 111, 114, 112, 105, 109, 101, 110, 116, 47, 103, 117, 97, 114, 100, 105, 97, 110, 46, 65, 99, 116, 105, 111, 110, 41, 46, 119, 97, 105, 116, 105, 110, 103])), .iface "func" (.lit (.string [40, 111, 114, 112, 105, 109, 101, 110, 116, 47, 103, 117, 97, 114, 100, 105, 97, 110, 46, 65, 99, 116, 105, 111, 110, 41, 46, 110, 111, 116, 105, 102, 121, 105, 110, 103])), .iface "func" (.lit (.string [40, 111, 114, 112, 105, 109, 101, 110, 116, 47, 103, 117, 97, 114, 100, 105, 97, 110, 46, 65, 99, 116, 105, 111, 110, 41, 46, 116, 114, 105, 103, 103, 101, 114, 105, 110, 103])), .iface "func" (.lit (.string [40, 111, 114, 112, 105, 109, 101, 110, 116, 47, 103, 117, 97, 114, 100, 105, 97, 110, 46, 65, 99, 116, 105, 111, 110, 41, 46, 98, 97, 114, 101]))])

/-- 'orpimentlaw40.GuardianServes': WHATEVER THE INPUT: true; the input reads as it did. -/
def guardianServesSpec : ChangeSpec := { name := "guardianServes", fn := fun _ => fun
  | [d1, d2] => { results := [.lit (.bool true)], args := [d1, d2] }
  | _ => none }
def guardianServesRow : OpenClaim := { program := "ytljfjiaiachbfaadoor", sum := "2ec72fc0ae1e363d97ff74e3791de93f26db6d30f9c5ad51db91798a5379203e", func := "orpiment/orpimentlaw40.GuardianServes", spec := "guardianServes", unfollowed := true, recurses := true, named := ["orpiment/guardian.fields"], apart := false, laid := [("orpiment/guardian.fields", laid_orpiment_guardian_fields)] }
def GuardianServesSaid : Prop := guardianServesRow.holds Tryd.pinned (OpenSpec.ofChange guardianServesSpec)

/-- ITS FALSE NEIGHBOUR: 'it returns false'. Refute it at one input. -/
def guardianServesWrong : ChangeSpec := { name := "guardianServes", fn := fun _ => fun
  | [d1, d2] => { results := [.lit (.bool false)], args := [d1, d2] }
  | _ => none }
def GuardianServesWrongFalsely : Prop := guardianServesRow.holds Tryd.pinned (OpenSpec.ofChange guardianServesWrong)

/-- 'orpimentlaw40.GuardianRecovers': WHATEVER THE INPUT: true; the input reads as it did. -/
def guardianRecoversSpec : ChangeSpec := { name := "guardianRecovers", fn := fun _ => fun
  | [d1, d2, d3] => { results := [.lit (.bool true)], args := [d1, d2, d3] }
  | _ => none }
def guardianRecoversRow : OpenClaim := { program := "ytljfjiaiachbfaadoor", sum := "2ec72fc0ae1e363d97ff74e3791de93f26db6d30f9c5ad51db91798a5379203e", func := "orpiment/orpimentlaw40.GuardianRecovers", spec := "guardianRecovers", unfollowed := true, recurses := true, named := ["orpiment/guardian.fields"], apart := false, laid := [("orpiment/guardian.fields", laid_orpiment_guardian_fields)] }
def GuardianRecoversSaid : Prop := guardianRecoversRow.holds Tryd.pinned (OpenSpec.ofChange guardianRecoversSpec)

/-- ITS FALSE NEIGHBOUR: 'it returns false'. Refute it at one input. -/
def guardianRecoversWrong : ChangeSpec := { name := "guardianRecovers", fn := fun _ => fun
  | [d1, d2, d3] => { results := [.lit (.bool false)], args := [d1, d2, d3] }
  | _ => none }
def GuardianRecoversWrongFalsely : Prop := guardianRecoversRow.holds Tryd.pinned (OpenSpec.ofChange guardianRecoversWrong)

/-- 'orpimentlaw40.GuardianOnce': WHATEVER THE INPUT: true; the input reads as it did. -/
def guardianOnceSpec : ChangeSpec := { name := "guardianOnce", fn := fun _ => fun
  | [d1, d2, d3] => { results := [.lit (.bool true)], args := [d1, d2, d3] }
  | _ => none }
def guardianOnceRow : OpenClaim := { program := "ytljfjiaiachbfaadoor", sum := "2ec72fc0ae1e363d97ff74e3791de93f26db6d30f9c5ad51db91798a5379203e", func := "orpiment/orpimentlaw40.GuardianOnce", spec := "guardianOnce", unfollowed := true, recurses := true, named := ["orpiment/guardian.fields"], apart := false, laid := [("orpiment/guardian.fields", laid_orpiment_guardian_fields)] }
def GuardianOnceSaid : Prop := guardianOnceRow.holds Tryd.pinned (OpenSpec.ofChange guardianOnceSpec)

/-- ITS FALSE NEIGHBOUR: 'it returns false'. Refute it at one input. -/
def guardianOnceWrong : ChangeSpec := { name := "guardianOnce", fn := fun _ => fun
  | [d1, d2, d3] => { results := [.lit (.bool false)], args := [d1, d2, d3] }
  | _ => none }
def GuardianOnceWrongFalsely : Prop := guardianOnceRow.holds Tryd.pinned (OpenSpec.ofChange guardianOnceWrong)

/- THE SECOND FORM. 'bulk': how many values and letters a reading holds, each counted each time it is reached (what is shared counts as often as it is met; a slice's spare places count too). A statement '..UptoSaid' is the law's where the arguments, and the package variables that the reading takes, are together of bulk at most 1048576: NARROWER than '..Said'. Prove '..Said' where nothing that the law and all that it calls make is longer than what came in: it says more and counts as full. Else prove '..UptoSaid'. A law counts once. -/
mutual
def uptoBulk {H : Type} : DataW H → Nat
  | .lit (.string bytes) => bytes.length + 1
  | .lit _ => 1
  | .nil => 1
  | .ptr d => uptoBulk d + 1
  | .slice elems spare => uptoBulkAll elems + uptoBulkAll spare + 1
  | .agg parts => uptoBulkAll parts + 1
  | .iface _ d => uptoBulk d + 1
  | .map entries => uptoBulkEntries entries + 1
  | .held _ => 1
def uptoBulkAll {H : Type} : List (DataW H) → Nat
  | [] => 0
  | d :: r => uptoBulk d + uptoBulkAll r
def uptoBulkEntries {H : Type} : List (Lit × DataW H) → Nat
  | [] => 0
  | x :: r => uptoBulkEntry x + uptoBulkEntries r
def uptoBulkEntry {H : Type} : Lit × DataW H → Nat
  | (.string bytes, d) => bytes.length + uptoBulk d + 1
  | (_, d) => uptoBulk d + 1
 end
def uptoSmall : (H : Type) → List (DataW H) → Bool := fun _ ds => decide (uptoBulkAll ds ≤ 1048576)
def OpenSpec.upto (s : _root_.Go.ChangeSpec) : _root_.Go.OpenSpec := { _root_.Go.OpenSpec.ofChange s with cond := some uptoSmall }

/-- 'orpimentlaw40.GuardianServes', WHERE WHAT IT READS IS OF BULK AT MOST 1048576: true; the input reads as it did. -/
def guardianServesUptoRow : OpenClaim := { program := "ytljfjiaiachbfaadoor", sum := "2ec72fc0ae1e363d97ff74e3791de93f26db6d30f9c5ad51db91798a5379203e", func := "orpiment/orpimentlaw40.GuardianServes", spec := "guardianServes", unfollowed := true, recurses := true, named := ["orpiment/guardian.fields"], apart := false, laid := [("orpiment/guardian.fields", laid_orpiment_guardian_fields)], narrowed := true }
def GuardianServesUptoSaid : Prop := guardianServesUptoRow.holds Tryd.pinned (OpenSpec.upto guardianServesSpec)

/-- 'orpimentlaw40.GuardianRecovers', WHERE WHAT IT READS IS OF BULK AT MOST 1048576: true; the input reads as it did. -/
def guardianRecoversUptoRow : OpenClaim := { program := "ytljfjiaiachbfaadoor", sum := "2ec72fc0ae1e363d97ff74e3791de93f26db6d30f9c5ad51db91798a5379203e", func := "orpiment/orpimentlaw40.GuardianRecovers", spec := "guardianRecovers", unfollowed := true, recurses := true, named := ["orpiment/guardian.fields"], apart := false, laid := [("orpiment/guardian.fields", laid_orpiment_guardian_fields)], narrowed := true }
def GuardianRecoversUptoSaid : Prop := guardianRecoversUptoRow.holds Tryd.pinned (OpenSpec.upto guardianRecoversSpec)

/-- 'orpimentlaw40.GuardianOnce', WHERE WHAT IT READS IS OF BULK AT MOST 1048576: true; the input reads as it did. -/
def guardianOnceUptoRow : OpenClaim := { program := "ytljfjiaiachbfaadoor", sum := "2ec72fc0ae1e363d97ff74e3791de93f26db6d30f9c5ad51db91798a5379203e", func := "orpiment/orpimentlaw40.GuardianOnce", spec := "guardianOnce", unfollowed := true, recurses := true, named := ["orpiment/guardian.fields"], apart := false, laid := [("orpiment/guardian.fields", laid_orpiment_guardian_fields)], narrowed := true }
def GuardianOnceUptoSaid : Prop := guardianOnceUptoRow.holds Tryd.pinned (OpenSpec.upto guardianOnceSpec)

end Rows
end Go.Proofs.YtljfjiaiachbfaaDoor
