/-
  No cell of these rows narrows 'for every input' (looked for: loops, veiled, ifaces, maps, wideKeys, modest, calm, conditions, laid).
  DERIVED. THE GIVEN ROWS OF THIS SEAT. 4 by the template 'for every input the law returns true; each argument reads behind the call as it read before'; 0 by the template 'total and deterministic' (their statements: YtojabcadoajbjaaTotals.lean).
  GIVEN WITH THE SEED: the statements are not yours to turn. If you find one false, say at which input.
  Laid BY PROGRAM, IN A SANDBOX (cutbox-rows.mjs): the forced cells as the released guide's own fill.sh prints them over the translation 74b837777304178a… (all of the seat's roots in one cut). By AI agents, Wed Nov 11 2026. No macro, syntax, notation, axiom, sorry.
-/
import Derived.Test.YtojabcadoajbjaaChecked
import GoSem.Claim
import GoSem.ClaimJoined
import GoSem.ClaimMapViews
import Derived.JoinedTies
import Derived.KernelRfl
namespace Go.Proofs.Ytojabcadoajbjaa
/- THE CELL 'sum', in the pinned program and in every row, IS THE sha256 OF THE DUMP (.gsa) THAT YtojabcadoajbjaaProg.lean LOADS. Nothing in Lean hashes anything: it is a label: what it is worth is what the hold of that sum in a sandbox is worth. -/
noncomputable def Try.pinned : Pinned := { name := "ytojabcadoajbjaa", sum := "74b837777304178a0520fa459837c363541f9cb3e11cc0b64f490ecbfaf2090e", checked := Try.checked }
namespace Rows
def none {H : Type} : Left H := { results := [], args := [] }

/-- 'sawyerlaw07.BloomBuilds': WHATEVER THE INPUT: true; the input reads as it did. -/
def bloomBuildsSpec : ChangeSpec := { name := "bloomBuilds", fn := fun _ => fun
  | [d] => { results := [.lit (.bool true)], args := [d] }
  | _ => none }
def bloomBuildsRow : OpenClaim := { program := "ytojabcadoajbjaa", sum := "74b837777304178a0520fa459837c363541f9cb3e11cc0b64f490ecbfaf2090e", func := "sawyer/sawyerlaw07.BloomBuilds", spec := "bloomBuilds", unfollowed := true, recurses := true, apart := false }
def BloomBuildsSaid : Prop := bloomBuildsRow.holds Try.pinned (OpenSpec.ofChange bloomBuildsSpec)

/-- ITS FALSE NEIGHBOUR: 'it returns false'. Refute it at one input. -/
def bloomBuildsWrong : ChangeSpec := { name := "bloomBuilds", fn := fun _ => fun
  | [d] => { results := [.lit (.bool false)], args := [d] }
  | _ => none }
def BloomBuildsWrongFalsely : Prop := bloomBuildsRow.holds Try.pinned (OpenSpec.ofChange bloomBuildsWrong)

/-- 'sawyerlaw07.BloomAsks': WHATEVER THE INPUT: true; the input reads as it did. -/
def bloomAsksSpec : ChangeSpec := { name := "bloomAsks", fn := fun _ => fun
  | [d1, d2] => { results := [.lit (.bool true)], args := [d1, d2] }
  | _ => none }
def bloomAsksRow : OpenClaim := { program := "ytojabcadoajbjaa", sum := "74b837777304178a0520fa459837c363541f9cb3e11cc0b64f490ecbfaf2090e", func := "sawyer/sawyerlaw07.BloomAsks", spec := "bloomAsks", unfollowed := true, recurses := true, apart := false }
def BloomAsksSaid : Prop := bloomAsksRow.holds Try.pinned (OpenSpec.ofChange bloomAsksSpec)

/-- ITS FALSE NEIGHBOUR: 'it returns false'. Refute it at one input. -/
def bloomAsksWrong : ChangeSpec := { name := "bloomAsks", fn := fun _ => fun
  | [d1, d2] => { results := [.lit (.bool false)], args := [d1, d2] }
  | _ => none }
def BloomAsksWrongFalsely : Prop := bloomAsksRow.holds Try.pinned (OpenSpec.ofChange bloomAsksWrong)

/-- 'sawyerlaw07.BloomOrder': WHATEVER THE INPUT: true; the input reads as it did. -/
def bloomOrderSpec : ChangeSpec := { name := "bloomOrder", fn := fun _ => fun
  | [d] => { results := [.lit (.bool true)], args := [d] }
  | _ => none }
def bloomOrderRow : OpenClaim := { program := "ytojabcadoajbjaa", sum := "74b837777304178a0520fa459837c363541f9cb3e11cc0b64f490ecbfaf2090e", func := "sawyer/sawyerlaw07.BloomOrder", spec := "bloomOrder", unfollowed := true, recurses := true, apart := false }
def BloomOrderSaid : Prop := bloomOrderRow.holds Try.pinned (OpenSpec.ofChange bloomOrderSpec)

/-- ITS FALSE NEIGHBOUR: 'it returns false'. Refute it at one input. -/
def bloomOrderWrong : ChangeSpec := { name := "bloomOrder", fn := fun _ => fun
  | [d] => { results := [.lit (.bool false)], args := [d] }
  | _ => none }
def BloomOrderWrongFalsely : Prop := bloomOrderRow.holds Try.pinned (OpenSpec.ofChange bloomOrderWrong)

/-- 'sawyerlaw07.BloomSize': WHATEVER THE INPUT: true; the input reads as it did. -/
def bloomSizeSpec : ChangeSpec := { name := "bloomSize", fn := fun _ => fun
  | [d] => { results := [.lit (.bool true)], args := [d] }
  | _ => none }
def bloomSizeRow : OpenClaim := { program := "ytojabcadoajbjaa", sum := "74b837777304178a0520fa459837c363541f9cb3e11cc0b64f490ecbfaf2090e", func := "sawyer/sawyerlaw07.BloomSize", spec := "bloomSize", unfollowed := true, recurses := true, apart := false }
def BloomSizeSaid : Prop := bloomSizeRow.holds Try.pinned (OpenSpec.ofChange bloomSizeSpec)

/-- ITS FALSE NEIGHBOUR: 'it returns false'. Refute it at one input. -/
def bloomSizeWrong : ChangeSpec := { name := "bloomSize", fn := fun _ => fun
  | [d] => { results := [.lit (.bool false)], args := [d] }
  | _ => none }
def BloomSizeWrongFalsely : Prop := bloomSizeRow.holds Try.pinned (OpenSpec.ofChange bloomSizeWrong)

/- THE SECOND FORM. 'bulk': how many values and letters a reading holds, each counted each time it is reached (what is shared counts as often as it is met; a slice's spare places count too). A statement '..UptoSaid' is the law's where the arguments, and the package variables that the reading takes, are together of bulk at most 1048576: NARROWER than '..Said'. Prove '..Said' where nothing that the law and all that it calls make is longer than what came in: it says more and counts as full. Else prove '..UptoSaid'. A law counts once. -/
mutual
def uptoBulk {H : Type} : DataW H → Nat
  | .lit (.string bytes) => bytes.length + 1
  | .lit _ => 1
  | .nil => 1
  | .ptr d => uptoBulk d + 1
  | .slice elems spare => uptoBulkAll elems + uptoBulkAll spare + 1
  | .agg parts => uptoBulkAll parts + 1
  | .iface _ d => uptoBulk d + 1
  | .map entries => uptoBulkEntries entries + 1
  | .held _ => 1
def uptoBulkAll {H : Type} : List (DataW H) → Nat
  | [] => 0
  | d :: r => uptoBulk d + uptoBulkAll r
def uptoBulkEntries {H : Type} : List (Lit × DataW H) → Nat
  | [] => 0
  | x :: r => uptoBulkEntry x + uptoBulkEntries r
def uptoBulkEntry {H : Type} : Lit × DataW H → Nat
  | (.string bytes, d) => bytes.length + uptoBulk d + 1
  | (_, d) => uptoBulk d + 1
 end
def uptoSmall : (H : Type) → List (DataW H) → Bool := fun _ ds => decide (uptoBulkAll ds ≤ 1048576)
def OpenSpec.upto (s : _root_.Go.ChangeSpec) : _root_.Go.OpenSpec := { _root_.Go.OpenSpec.ofChange s with cond := some uptoSmall }

/-- 'sawyerlaw07.BloomBuilds', WHERE WHAT IT READS IS OF BULK AT MOST 1048576: true; the input reads as it did. -/
def bloomBuildsUptoRow : OpenClaim := { program := "ytojabcadoajbjaa", sum := "74b837777304178a0520fa459837c363541f9cb3e11cc0b64f490ecbfaf2090e", func := "sawyer/sawyerlaw07.BloomBuilds", spec := "bloomBuilds", unfollowed := true, recurses := true, apart := false, narrowed := true }
def BloomBuildsUptoSaid : Prop := bloomBuildsUptoRow.holds Try.pinned (OpenSpec.upto bloomBuildsSpec)

/-- 'sawyerlaw07.BloomAsks', WHERE WHAT IT READS IS OF BULK AT MOST 1048576: true; the input reads as it did. -/
def bloomAsksUptoRow : OpenClaim := { program := "ytojabcadoajbjaa", sum := "74b837777304178a0520fa459837c363541f9cb3e11cc0b64f490ecbfaf2090e", func := "sawyer/sawyerlaw07.BloomAsks", spec := "bloomAsks", unfollowed := true, recurses := true, apart := false, narrowed := true }
def BloomAsksUptoSaid : Prop := bloomAsksUptoRow.holds Try.pinned (OpenSpec.upto bloomAsksSpec)

/-- 'sawyerlaw07.BloomOrder', WHERE WHAT IT READS IS OF BULK AT MOST 1048576: true; the input reads as it did. -/
def bloomOrderUptoRow : OpenClaim := { program := "ytojabcadoajbjaa", sum := "74b837777304178a0520fa459837c363541f9cb3e11cc0b64f490ecbfaf2090e", func := "sawyer/sawyerlaw07.BloomOrder", spec := "bloomOrder", unfollowed := true, recurses := true, apart := false, narrowed := true }
def BloomOrderUptoSaid : Prop := bloomOrderUptoRow.holds Try.pinned (OpenSpec.upto bloomOrderSpec)

/-- 'sawyerlaw07.BloomSize', WHERE WHAT IT READS IS OF BULK AT MOST 1048576: true; the input reads as it did. -/
def bloomSizeUptoRow : OpenClaim := { program := "ytojabcadoajbjaa", sum := "74b837777304178a0520fa459837c363541f9cb3e11cc0b64f490ecbfaf2090e", func := "sawyer/sawyerlaw07.BloomSize", spec := "bloomSize", unfollowed := true, recurses := true, apart := false, narrowed := true }
def BloomSizeUptoSaid : Prop := bloomSizeUptoRow.holds Try.pinned (OpenSpec.upto bloomSizeSpec)

end Rows
end Go.Proofs.Ytojabcadoajbjaa
