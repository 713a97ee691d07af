/-
  No cell of these rows narrows 'for every input' (looked for: loops, veiled, ifaces, maps, wideKeys, modest, calm, conditions, laid).
  DERIVED. THE GIVEN ROWS OF THIS SEAT. 5 by the template 'for every input the law returns true; each argument reads behind the call as it read before'; 0 by the template 'total and deterministic' (their statements: YtoihdghoopgdfaaTotals.lean).
  GIVEN WITH THE SEED: the statements are not yours to turn. If you find one false, say at which input.
  Laid BY PROGRAM, IN A SANDBOX (cutbox-rows.mjs): the forced cells as the released guide's own fill.sh prints them over the translation 6683babf4ad9a78e… (all of the seat's roots in one cut). By AI agents, Wed Nov 11 2026. No macro, syntax, notation, axiom, sorry.
-/
import Derived.Test.YtoihdghoopgdfaaChecked
import GoSem.Claim
import GoSem.ClaimJoined
import GoSem.ClaimMapViews
import Derived.JoinedTies
import Derived.KernelRfl
namespace Go.Proofs.Ytoihdghoopgdfaa
/- THE CELL 'sum', in the pinned program and in every row, IS THE sha256 OF THE DUMP (.gsa) THAT YtoihdghoopgdfaaProg.lean LOADS. Nothing in Lean hashes anything: it is a label: what it is worth is what the hold of that sum in a sandbox is worth. -/
noncomputable def Try.pinned : Pinned := { name := "ytoihdghoopgdfaa", sum := "6683babf4ad9a78e87a62e232a3b7389b645f8071f97466bedce6bf63d9164b3", checked := Try.checked }
namespace Rows
def none {H : Type} : Left H := { results := [], args := [] }

/-- 'sawyerlaw16.SpanPushes': WHATEVER THE INPUT: true; the input reads as it did. -/
def spanPushesSpec : ChangeSpec := { name := "spanPushes", fn := fun _ => fun
  | [d1, d2] => { results := [.lit (.bool true)], args := [d1, d2] }
  | _ => none }
def spanPushesRow : OpenClaim := { program := "ytoihdghoopgdfaa", sum := "6683babf4ad9a78e87a62e232a3b7389b645f8071f97466bedce6bf63d9164b3", func := "sawyer/sawyerlaw16.SpanPushes", spec := "spanPushes", unfollowed := true, recurses := true, apart := false }
def SpanPushesSaid : Prop := spanPushesRow.holds Try.pinned (OpenSpec.ofChange spanPushesSpec)

/-- ITS FALSE NEIGHBOUR: 'it returns false'. Refute it at one input. -/
def spanPushesWrong : ChangeSpec := { name := "spanPushes", fn := fun _ => fun
  | [d1, d2] => { results := [.lit (.bool false)], args := [d1, d2] }
  | _ => none }
def SpanPushesWrongFalsely : Prop := spanPushesRow.holds Try.pinned (OpenSpec.ofChange spanPushesWrong)

/-- 'sawyerlaw16.SpanKeeps': WHATEVER THE INPUT: true; the input reads as it did. -/
def spanKeepsSpec : ChangeSpec := { name := "spanKeeps", fn := fun _ => fun
  | [d1, d2, d3] => { results := [.lit (.bool true)], args := [d1, d2, d3] }
  | _ => none }
def spanKeepsRow : OpenClaim := { program := "ytoihdghoopgdfaa", sum := "6683babf4ad9a78e87a62e232a3b7389b645f8071f97466bedce6bf63d9164b3", func := "sawyer/sawyerlaw16.SpanKeeps", spec := "spanKeeps", unfollowed := true, recurses := true, apart := false }
def SpanKeepsSaid : Prop := spanKeepsRow.holds Try.pinned (OpenSpec.ofChange spanKeepsSpec)

/-- ITS FALSE NEIGHBOUR: 'it returns false'. Refute it at one input. -/
def spanKeepsWrong : ChangeSpec := { name := "spanKeeps", fn := fun _ => fun
  | [d1, d2, d3] => { results := [.lit (.bool false)], args := [d1, d2, d3] }
  | _ => none }
def SpanKeepsWrongFalsely : Prop := spanKeepsRow.holds Try.pinned (OpenSpec.ofChange spanKeepsWrong)

/-- 'sawyerlaw16.SpanCodes': WHATEVER THE INPUT: true; the input reads as it did. -/
def spanCodesSpec : ChangeSpec := { name := "spanCodes", fn := fun _ => fun
  | [d1, d2] => { results := [.lit (.bool true)], args := [d1, d2] }
  | _ => none }
def spanCodesRow : OpenClaim := { program := "ytoihdghoopgdfaa", sum := "6683babf4ad9a78e87a62e232a3b7389b645f8071f97466bedce6bf63d9164b3", func := "sawyer/sawyerlaw16.SpanCodes", spec := "spanCodes", unfollowed := true, recurses := true, apart := false }
def SpanCodesSaid : Prop := spanCodesRow.holds Try.pinned (OpenSpec.ofChange spanCodesSpec)

/-- ITS FALSE NEIGHBOUR: 'it returns false'. Refute it at one input. -/
def spanCodesWrong : ChangeSpec := { name := "spanCodes", fn := fun _ => fun
  | [d1, d2] => { results := [.lit (.bool false)], args := [d1, d2] }
  | _ => none }
def SpanCodesWrongFalsely : Prop := spanCodesRow.holds Try.pinned (OpenSpec.ofChange spanCodesWrong)

/-- 'sawyerlaw16.SpanBack': WHATEVER THE INPUT: true; the input reads as it did. -/
def spanBackSpec : ChangeSpec := { name := "spanBack", fn := fun _ => fun
  | [d1, d2] => { results := [.lit (.bool true)], args := [d1, d2] }
  | _ => none }
def spanBackRow : OpenClaim := { program := "ytoihdghoopgdfaa", sum := "6683babf4ad9a78e87a62e232a3b7389b645f8071f97466bedce6bf63d9164b3", func := "sawyer/sawyerlaw16.SpanBack", spec := "spanBack", unfollowed := true, recurses := true, apart := false }
def SpanBackSaid : Prop := spanBackRow.holds Try.pinned (OpenSpec.ofChange spanBackSpec)

/-- ITS FALSE NEIGHBOUR: 'it returns false'. Refute it at one input. -/
def spanBackWrong : ChangeSpec := { name := "spanBack", fn := fun _ => fun
  | [d1, d2] => { results := [.lit (.bool false)], args := [d1, d2] }
  | _ => none }
def SpanBackWrongFalsely : Prop := spanBackRow.holds Try.pinned (OpenSpec.ofChange spanBackWrong)

/-- 'sawyerlaw16.SpanRoots': WHATEVER THE INPUT: true; the input reads as it did. -/
def spanRootsSpec : ChangeSpec := { name := "spanRoots", fn := fun _ => fun
  | [d1, d2] => { results := [.lit (.bool true)], args := [d1, d2] }
  | _ => none }
def spanRootsRow : OpenClaim := { program := "ytoihdghoopgdfaa", sum := "6683babf4ad9a78e87a62e232a3b7389b645f8071f97466bedce6bf63d9164b3", func := "sawyer/sawyerlaw16.SpanRoots", spec := "spanRoots", unfollowed := true, recurses := true, apart := false }
def SpanRootsSaid : Prop := spanRootsRow.holds Try.pinned (OpenSpec.ofChange spanRootsSpec)

/-- ITS FALSE NEIGHBOUR: 'it returns false'. Refute it at one input. -/
def spanRootsWrong : ChangeSpec := { name := "spanRoots", fn := fun _ => fun
  | [d1, d2] => { results := [.lit (.bool false)], args := [d1, d2] }
  | _ => none }
def SpanRootsWrongFalsely : Prop := spanRootsRow.holds Try.pinned (OpenSpec.ofChange spanRootsWrong)

/- THE SECOND FORM. 'bulk': how many values and letters a reading holds, each counted each time it is reached (what is shared counts as often as it is met; a slice's spare places count too). A statement '..UptoSaid' is the law's where the arguments, and the package variables that the reading takes, are together of bulk at most 1048576: NARROWER than '..Said'. Prove '..Said' where nothing that the law and all that it calls make is longer than what came in: it says more and counts as full. Else prove '..UptoSaid'. A law counts once. -/
mutual
def uptoBulk {H : Type} : DataW H → Nat
  | .lit (.string bytes) => bytes.length + 1
  | .lit _ => 1
  | .nil => 1
  | .ptr d => uptoBulk d + 1
  | .slice elems spare => uptoBulkAll elems + uptoBulkAll spare + 1
  | .agg parts => uptoBulkAll parts + 1
  | .iface _ d => uptoBulk d + 1
  | .map entries => uptoBulkEntries entries + 1
  | .held _ => 1
def uptoBulkAll {H : Type} : List (DataW H) → Nat
  | [] => 0
  | d :: r => uptoBulk d + uptoBulkAll r
def uptoBulkEntries {H : Type} : List (Lit × DataW H) → Nat
  | [] => 0
  | x :: r => uptoBulkEntry x + uptoBulkEntries r
def uptoBulkEntry {H : Type} : Lit × DataW H → Nat
  | (.string bytes, d) => bytes.length + uptoBulk d + 1
  | (_, d) => uptoBulk d + 1
 end
def uptoSmall : (H : Type) → List (DataW H) → Bool := fun _ ds => decide (uptoBulkAll ds ≤ 1048576)
def OpenSpec.upto (s : _root_.Go.ChangeSpec) : _root_.Go.OpenSpec := { _root_.Go.OpenSpec.ofChange s with cond := some uptoSmall }

/-- 'sawyerlaw16.SpanPushes', WHERE WHAT IT READS IS OF BULK AT MOST 1048576: true; the input reads as it did. -/
def spanPushesUptoRow : OpenClaim := { program := "ytoihdghoopgdfaa", sum := "6683babf4ad9a78e87a62e232a3b7389b645f8071f97466bedce6bf63d9164b3", func := "sawyer/sawyerlaw16.SpanPushes", spec := "spanPushes", unfollowed := true, recurses := true, apart := false, narrowed := true }
def SpanPushesUptoSaid : Prop := spanPushesUptoRow.holds Try.pinned (OpenSpec.upto spanPushesSpec)

/-- 'sawyerlaw16.SpanKeeps', WHERE WHAT IT READS IS OF BULK AT MOST 1048576: true; the input reads as it did. -/
def spanKeepsUptoRow : OpenClaim := { program := "ytoihdghoopgdfaa", sum := "6683babf4ad9a78e87a62e232a3b7389b645f8071f97466bedce6bf63d9164b3", func := "sawyer/sawyerlaw16.SpanKeeps", spec := "spanKeeps", unfollowed := true, recurses := true, apart := false, narrowed := true }
def SpanKeepsUptoSaid : Prop := spanKeepsUptoRow.holds Try.pinned (OpenSpec.upto spanKeepsSpec)

/-- 'sawyerlaw16.SpanCodes', WHERE WHAT IT READS IS OF BULK AT MOST 1048576: true; the input reads as it did. -/
def spanCodesUptoRow : OpenClaim := { program := "ytoihdghoopgdfaa", sum := "6683babf4ad9a78e87a62e232a3b7389b645f8071f97466bedce6bf63d9164b3", func := "sawyer/sawyerlaw16.SpanCodes", spec := "spanCodes", unfollowed := true, recurses := true, apart := false, narrowed := true }
def SpanCodesUptoSaid : Prop := spanCodesUptoRow.holds Try.pinned (OpenSpec.upto spanCodesSpec)

/-- 'sawyerlaw16.SpanBack', WHERE WHAT IT READS IS OF BULK AT MOST 1048576: true; the input reads as it did. -/
def spanBackUptoRow : OpenClaim := { program := "ytoihdghoopgdfaa", sum := "6683babf4ad9a78e87a62e232a3b7389b645f8071f97466bedce6bf63d9164b3", func := "sawyer/sawyerlaw16.SpanBack", spec := "spanBack", unfollowed := true, recurses := true, apart := false, narrowed := true }
def SpanBackUptoSaid : Prop := spanBackUptoRow.holds Try.pinned (OpenSpec.upto spanBackSpec)

/-- 'sawyerlaw16.SpanRoots', WHERE WHAT IT READS IS OF BULK AT MOST 1048576: true; the input reads as it did. -/
def spanRootsUptoRow : OpenClaim := { program := "ytoihdghoopgdfaa", sum := "6683babf4ad9a78e87a62e232a3b7389b645f8071f97466bedce6bf63d9164b3", func := "sawyer/sawyerlaw16.SpanRoots", spec := "spanRoots", unfollowed := true, recurses := true, apart := false, narrowed := true }
def SpanRootsUptoSaid : Prop := spanRootsUptoRow.holds Try.pinned (OpenSpec.upto spanRootsSpec)

end Rows
end Go.Proofs.Ytoihdghoopgdfaa
