/-
  No cell of these rows narrows 'for every input' (looked for: loops, veiled, ifaces, maps, wideKeys, modest, calm, conditions, laid).
  DERIVED. THE GIVEN ROWS OF THIS SEAT. 10 by the template 'for every input the law returns true; each argument reads behind the call as it read before'; 0 by the template 'total and deterministic' (their statements: YtkbbdbnjplcjdaaTotals.lean).
  GIVEN WITH THE SEED: the statements are not yours to turn. If you find one false, say at which input.
  Laid BY PROGRAM, IN A SANDBOX (cutbox-rows.mjs): the forced cells as the released guide's own fill.sh prints them over the translation 1db086ad2bb1dd1a… (all of the seat's roots in one cut). By AI agents, Wed Nov 11 2026. No macro, syntax, notation, axiom, sorry.
-/
import Derived.Test.YtkbbdbnjplcjdaaChecked
import GoSem.Claim
import GoSem.ClaimJoined
import GoSem.ClaimMapViews
import Derived.JoinedTies
import Derived.KernelRfl
namespace Go.Proofs.Ytkbbdbnjplcjdaa
/- THE CELL 'sum', in the pinned program and in every row, IS THE sha256 OF THE DUMP (.gsa) THAT YtkbbdbnjplcjdaaProg.lean LOADS. Nothing in Lean hashes anything: it is a label: what it is worth is what the hold of that sum in a sandbox is worth. -/
noncomputable def Try.pinned : Pinned := { name := "ytkbbdbnjplcjdaa", sum := "1db086ad2bb1dd1af2c0031d8bd9fb81c8b651c289d5a026dc3688ed9dac5e1c", checked := Try.checked }
namespace Rows
def none {H : Type} : Left H := { results := [], args := [] }

/-- 'sawyerlaw15.HashRoots': WHATEVER THE INPUT: true; the input reads as it did. -/
def hashRootsSpec : ChangeSpec := { name := "hashRoots", fn := fun _ => fun
  | [d1, d2, d3, d4] => { results := [.lit (.bool true)], args := [d1, d2, d3, d4] }
  | _ => none }
def hashRootsRow : OpenClaim := { program := "ytkbbdbnjplcjdaa", sum := "1db086ad2bb1dd1af2c0031d8bd9fb81c8b651c289d5a026dc3688ed9dac5e1c", func := "sawyer/sawyerlaw15.HashRoots", spec := "hashRoots", unfollowed := true, recurses := true, apart := false }
def HashRootsSaid : Prop := hashRootsRow.holds Try.pinned (OpenSpec.ofChange hashRootsSpec)

/-- ITS FALSE NEIGHBOUR: 'it returns false'. Refute it at one input. -/
def hashRootsWrong : ChangeSpec := { name := "hashRoots", fn := fun _ => fun
  | [d1, d2, d3, d4] => { results := [.lit (.bool false)], args := [d1, d2, d3, d4] }
  | _ => none }
def HashRootsWrongFalsely : Prop := hashRootsRow.holds Try.pinned (OpenSpec.ofChange hashRootsWrong)

/-- 'sawyerlaw15.HashProves': WHATEVER THE INPUT: true; the input reads as it did. -/
def hashProvesSpec : ChangeSpec := { name := "hashProves", fn := fun _ => fun
  | [d1, d2, d3] => { results := [.lit (.bool true)], args := [d1, d2, d3] }
  | _ => none }
def hashProvesRow : OpenClaim := { program := "ytkbbdbnjplcjdaa", sum := "1db086ad2bb1dd1af2c0031d8bd9fb81c8b651c289d5a026dc3688ed9dac5e1c", func := "sawyer/sawyerlaw15.HashProves", spec := "hashProves", unfollowed := true, recurses := true, apart := false }
def HashProvesSaid : Prop := hashProvesRow.holds Try.pinned (OpenSpec.ofChange hashProvesSpec)

/-- ITS FALSE NEIGHBOUR: 'it returns false'. Refute it at one input. -/
def hashProvesWrong : ChangeSpec := { name := "hashProves", fn := fun _ => fun
  | [d1, d2, d3] => { results := [.lit (.bool false)], args := [d1, d2, d3] }
  | _ => none }
def HashProvesWrongFalsely : Prop := hashProvesRow.holds Try.pinned (OpenSpec.ofChange hashProvesWrong)

/-- 'sawyerlaw15.HashChecks': WHATEVER THE INPUT: true; the input reads as it did. -/
def hashChecksSpec : ChangeSpec := { name := "hashChecks", fn := fun _ => fun
  | [d1, d2, d3, d4, d5, d6] => { results := [.lit (.bool true)], args := [d1, d2, d3, d4, d5, d6] }
  | _ => none }
def hashChecksRow : OpenClaim := { program := "ytkbbdbnjplcjdaa", sum := "1db086ad2bb1dd1af2c0031d8bd9fb81c8b651c289d5a026dc3688ed9dac5e1c", func := "sawyer/sawyerlaw15.HashChecks", spec := "hashChecks", unfollowed := true, recurses := true, apart := false }
def HashChecksSaid : Prop := hashChecksRow.holds Try.pinned (OpenSpec.ofChange hashChecksSpec)

/-- ITS FALSE NEIGHBOUR: 'it returns false'. Refute it at one input. -/
def hashChecksWrong : ChangeSpec := { name := "hashChecks", fn := fun _ => fun
  | [d1, d2, d3, d4, d5, d6] => { results := [.lit (.bool false)], args := [d1, d2, d3, d4, d5, d6] }
  | _ => none }
def HashChecksWrongFalsely : Prop := hashChecksRow.holds Try.pinned (OpenSpec.ofChange hashChecksWrong)

/-- 'sawyerlaw15.HashPaths': WHATEVER THE INPUT: true; the input reads as it did. -/
def hashPathsSpec : ChangeSpec := { name := "hashPaths", fn := fun _ => fun
  | [d1, d2] => { results := [.lit (.bool true)], args := [d1, d2] }
  | _ => none }
def hashPathsRow : OpenClaim := { program := "ytkbbdbnjplcjdaa", sum := "1db086ad2bb1dd1af2c0031d8bd9fb81c8b651c289d5a026dc3688ed9dac5e1c", func := "sawyer/sawyerlaw15.HashPaths", spec := "hashPaths", unfollowed := true, recurses := true, apart := false }
def HashPathsSaid : Prop := hashPathsRow.holds Try.pinned (OpenSpec.ofChange hashPathsSpec)

/-- ITS FALSE NEIGHBOUR: 'it returns false'. Refute it at one input. -/
def hashPathsWrong : ChangeSpec := { name := "hashPaths", fn := fun _ => fun
  | [d1, d2] => { results := [.lit (.bool false)], args := [d1, d2] }
  | _ => none }
def HashPathsWrongFalsely : Prop := hashPathsRow.holds Try.pinned (OpenSpec.ofChange hashPathsWrong)

/-- 'sawyerlaw15.HashGrows': WHATEVER THE INPUT: true; the input reads as it did. -/
def hashGrowsSpec : ChangeSpec := { name := "hashGrows", fn := fun _ => fun
  | [d1, d2] => { results := [.lit (.bool true)], args := [d1, d2] }
  | _ => none }
def hashGrowsRow : OpenClaim := { program := "ytkbbdbnjplcjdaa", sum := "1db086ad2bb1dd1af2c0031d8bd9fb81c8b651c289d5a026dc3688ed9dac5e1c", func := "sawyer/sawyerlaw15.HashGrows", spec := "hashGrows", unfollowed := true, recurses := true, apart := false }
def HashGrowsSaid : Prop := hashGrowsRow.holds Try.pinned (OpenSpec.ofChange hashGrowsSpec)

/-- ITS FALSE NEIGHBOUR: 'it returns false'. Refute it at one input. -/
def hashGrowsWrong : ChangeSpec := { name := "hashGrows", fn := fun _ => fun
  | [d1, d2] => { results := [.lit (.bool false)], args := [d1, d2] }
  | _ => none }
def HashGrowsWrongFalsely : Prop := hashGrowsRow.holds Try.pinned (OpenSpec.ofChange hashGrowsWrong)

/-- 'sawyerlaw15.HashSplits': WHATEVER THE INPUT: true; the input reads as it did. -/
def hashSplitsSpec : ChangeSpec := { name := "hashSplits", fn := fun _ => fun
  | [d] => { results := [.lit (.bool true)], args := [d] }
  | _ => none }
def hashSplitsRow : OpenClaim := { program := "ytkbbdbnjplcjdaa", sum := "1db086ad2bb1dd1af2c0031d8bd9fb81c8b651c289d5a026dc3688ed9dac5e1c", func := "sawyer/sawyerlaw15.HashSplits", spec := "hashSplits", unfollowed := true, recurses := true, apart := false }
def HashSplitsSaid : Prop := hashSplitsRow.holds Try.pinned (OpenSpec.ofChange hashSplitsSpec)

/-- ITS FALSE NEIGHBOUR: 'it returns false'. Refute it at one input. -/
def hashSplitsWrong : ChangeSpec := { name := "hashSplits", fn := fun _ => fun
  | [d] => { results := [.lit (.bool false)], args := [d] }
  | _ => none }
def HashSplitsWrongFalsely : Prop := hashSplitsRow.holds Try.pinned (OpenSpec.ofChange hashSplitsWrong)

/-- 'sawyerlaw15.HashSizes': WHATEVER THE INPUT: true; the input reads as it did. -/
def hashSizesSpec : ChangeSpec := { name := "hashSizes", fn := fun _ => fun
  | [d1, d2, d3] => { results := [.lit (.bool true)], args := [d1, d2, d3] }
  | _ => none }
def hashSizesRow : OpenClaim := { program := "ytkbbdbnjplcjdaa", sum := "1db086ad2bb1dd1af2c0031d8bd9fb81c8b651c289d5a026dc3688ed9dac5e1c", func := "sawyer/sawyerlaw15.HashSizes", spec := "hashSizes", unfollowed := true, recurses := true, apart := false }
def HashSizesSaid : Prop := hashSizesRow.holds Try.pinned (OpenSpec.ofChange hashSizesSpec)

/-- ITS FALSE NEIGHBOUR: 'it returns false'. Refute it at one input. -/
def hashSizesWrong : ChangeSpec := { name := "hashSizes", fn := fun _ => fun
  | [d1, d2, d3] => { results := [.lit (.bool false)], args := [d1, d2, d3] }
  | _ => none }
def HashSizesWrongFalsely : Prop := hashSizesRow.holds Try.pinned (OpenSpec.ofChange hashSizesWrong)

/-- 'sawyerlaw15.HashSound': WHATEVER THE INPUT: true; the input reads as it did. -/
def hashSoundSpec : ChangeSpec := { name := "hashSound", fn := fun _ => fun
  | [d1, d2, d3, d4, d5, d6, d7] => { results := [.lit (.bool true)], args := [d1, d2, d3, d4, d5, d6, d7] }
  | _ => none }
def hashSoundRow : OpenClaim := { program := "ytkbbdbnjplcjdaa", sum := "1db086ad2bb1dd1af2c0031d8bd9fb81c8b651c289d5a026dc3688ed9dac5e1c", func := "sawyer/sawyerlaw15.HashSound", spec := "hashSound", unfollowed := true, recurses := true, apart := false }
def HashSoundSaid : Prop := hashSoundRow.holds Try.pinned (OpenSpec.ofChange hashSoundSpec)

/-- ITS FALSE NEIGHBOUR: 'it returns false'. Refute it at one input. -/
def hashSoundWrong : ChangeSpec := { name := "hashSound", fn := fun _ => fun
  | [d1, d2, d3, d4, d5, d6, d7] => { results := [.lit (.bool false)], args := [d1, d2, d3, d4, d5, d6, d7] }
  | _ => none }
def HashSoundWrongFalsely : Prop := hashSoundRow.holds Try.pinned (OpenSpec.ofChange hashSoundWrong)

/-- 'sawyerlaw15.HashCollides': WHATEVER THE INPUT: true; the input reads as it did. -/
def hashCollidesSpec : ChangeSpec := { name := "hashCollides", fn := fun _ => fun
  | [d1, d2, d3, d4, d5, d6] => { results := [.lit (.bool true)], args := [d1, d2, d3, d4, d5, d6] }
  | _ => none }
def hashCollidesRow : OpenClaim := { program := "ytkbbdbnjplcjdaa", sum := "1db086ad2bb1dd1af2c0031d8bd9fb81c8b651c289d5a026dc3688ed9dac5e1c", func := "sawyer/sawyerlaw15.HashCollides", spec := "hashCollides", unfollowed := true, recurses := true, apart := false }
def HashCollidesSaid : Prop := hashCollidesRow.holds Try.pinned (OpenSpec.ofChange hashCollidesSpec)

/-- ITS FALSE NEIGHBOUR: 'it returns false'. Refute it at one input. -/
def hashCollidesWrong : ChangeSpec := { name := "hashCollides", fn := fun _ => fun
  | [d1, d2, d3, d4, d5, d6] => { results := [.lit (.bool false)], args := [d1, d2, d3, d4, d5, d6] }
  | _ => none }
def HashCollidesWrongFalsely : Prop := hashCollidesRow.holds Try.pinned (OpenSpec.ofChange hashCollidesWrong)

/-- 'sawyerlaw15.HashSame': WHATEVER THE INPUT: true; the input reads as it did. -/
def hashSameSpec : ChangeSpec := { name := "hashSame", fn := fun _ => fun
  | [d1, d2, d3] => { results := [.lit (.bool true)], args := [d1, d2, d3] }
  | _ => none }
def hashSameRow : OpenClaim := { program := "ytkbbdbnjplcjdaa", sum := "1db086ad2bb1dd1af2c0031d8bd9fb81c8b651c289d5a026dc3688ed9dac5e1c", func := "sawyer/sawyerlaw15.HashSame", spec := "hashSame", unfollowed := true, recurses := true, apart := false }
def HashSameSaid : Prop := hashSameRow.holds Try.pinned (OpenSpec.ofChange hashSameSpec)

/-- ITS FALSE NEIGHBOUR: 'it returns false'. Refute it at one input. -/
def hashSameWrong : ChangeSpec := { name := "hashSame", fn := fun _ => fun
  | [d1, d2, d3] => { results := [.lit (.bool false)], args := [d1, d2, d3] }
  | _ => none }
def HashSameWrongFalsely : Prop := hashSameRow.holds Try.pinned (OpenSpec.ofChange hashSameWrong)

/- THE SECOND FORM. 'bulk': how many values and letters a reading holds, each counted each time it is reached (what is shared counts as often as it is met; a slice's spare places count too). A statement '..UptoSaid' is the law's where the arguments, and the package variables that the reading takes, are together of bulk at most 1048576: NARROWER than '..Said'. Prove '..Said' where nothing that the law and all that it calls make is longer than what came in: it says more and counts as full. Else prove '..UptoSaid'. A law counts once. -/
mutual
def uptoBulk {H : Type} : DataW H → Nat
  | .lit (.string bytes) => bytes.length + 1
  | .lit _ => 1
  | .nil => 1
  | .ptr d => uptoBulk d + 1
  | .slice elems spare => uptoBulkAll elems + uptoBulkAll spare + 1
  | .agg parts => uptoBulkAll parts + 1
  | .iface _ d => uptoBulk d + 1
  | .map entries => uptoBulkEntries entries + 1
  | .held _ => 1
def uptoBulkAll {H : Type} : List (DataW H) → Nat
  | [] => 0
  | d :: r => uptoBulk d + uptoBulkAll r
def uptoBulkEntries {H : Type} : List (Lit × DataW H) → Nat
  | [] => 0
  | x :: r => uptoBulkEntry x + uptoBulkEntries r
def uptoBulkEntry {H : Type} : Lit × DataW H → Nat
  | (.string bytes, d) => bytes.length + uptoBulk d + 1
  | (_, d) => uptoBulk d + 1
 end
def uptoSmall : (H : Type) → List (DataW H) → Bool := fun _ ds => decide (uptoBulkAll ds ≤ 1048576)
def OpenSpec.upto (s : _root_.Go.ChangeSpec) : _root_.Go.OpenSpec := { _root_.Go.OpenSpec.ofChange s with cond := some uptoSmall }

/-- 'sawyerlaw15.HashRoots', WHERE WHAT IT READS IS OF BULK AT MOST 1048576: true; the input reads as it did. -/
def hashRootsUptoRow : OpenClaim := { program := "ytkbbdbnjplcjdaa", sum := "1db086ad2bb1dd1af2c0031d8bd9fb81c8b651c289d5a026dc3688ed9dac5e1c", func := "sawyer/sawyerlaw15.HashRoots", spec := "hashRoots", unfollowed := true, recurses := true, apart := false, narrowed := true }
def HashRootsUptoSaid : Prop := hashRootsUptoRow.holds Try.pinned (OpenSpec.upto hashRootsSpec)

/-- 'sawyerlaw15.HashProves', WHERE WHAT IT READS IS OF BULK AT MOST 1048576: true; the input reads as it did. -/
def hashProvesUptoRow : OpenClaim := { program := "ytkbbdbnjplcjdaa", sum := "1db086ad2bb1dd1af2c0031d8bd9fb81c8b651c289d5a026dc3688ed9dac5e1c", func := "sawyer/sawyerlaw15.HashProves", spec := "hashProves", unfollowed := true, recurses := true, apart := false, narrowed := true }
def HashProvesUptoSaid : Prop := hashProvesUptoRow.holds Try.pinned (OpenSpec.upto hashProvesSpec)

/-- 'sawyerlaw15.HashChecks', WHERE WHAT IT READS IS OF BULK AT MOST 1048576: true; the input reads as it did. -/
def hashChecksUptoRow : OpenClaim := { program := "ytkbbdbnjplcjdaa", sum := "1db086ad2bb1dd1af2c0031d8bd9fb81c8b651c289d5a026dc3688ed9dac5e1c", func := "sawyer/sawyerlaw15.HashChecks", spec := "hashChecks", unfollowed := true, recurses := true, apart := false, narrowed := true }
def HashChecksUptoSaid : Prop := hashChecksUptoRow.holds Try.pinned (OpenSpec.upto hashChecksSpec)

/-- 'sawyerlaw15.HashPaths', WHERE WHAT IT READS IS OF BULK AT MOST 1048576: true; the input reads as it did. -/
def hashPathsUptoRow : OpenClaim := { program := "ytkbbdbnjplcjdaa", sum := "1db086ad2bb1dd1af2c0031d8bd9fb81c8b651c289d5a026dc3688ed9dac5e1c", func := "sawyer/sawyerlaw15.HashPaths", spec := "hashPaths", unfollowed := true, recurses := true, apart := false, narrowed := true }
def HashPathsUptoSaid : Prop := hashPathsUptoRow.holds Try.pinned (OpenSpec.upto hashPathsSpec)

/-- 'sawyerlaw15.HashGrows', WHERE WHAT IT READS IS OF BULK AT MOST 1048576: true; the input reads as it did. -/
def hashGrowsUptoRow : OpenClaim := { program := "ytkbbdbnjplcjdaa", sum := "1db086ad2bb1dd1af2c0031d8bd9fb81c8b651c289d5a026dc3688ed9dac5e1c", func := "sawyer/sawyerlaw15.HashGrows", spec := "hashGrows", unfollowed := true, recurses := true, apart := false, narrowed := true }
def HashGrowsUptoSaid : Prop := hashGrowsUptoRow.holds Try.pinned (OpenSpec.upto hashGrowsSpec)

/-- 'sawyerlaw15.HashSplits', WHERE WHAT IT READS IS OF BULK AT MOST 1048576: true; the input reads as it did. -/
def hashSplitsUptoRow : OpenClaim := { program := "ytkbbdbnjplcjdaa", sum := "1db086ad2bb1dd1af2c0031d8bd9fb81c8b651c289d5a026dc3688ed9dac5e1c", func := "sawyer/sawyerlaw15.HashSplits", spec := "hashSplits", unfollowed := true, recurses := true, apart := false, narrowed := true }
def HashSplitsUptoSaid : Prop := hashSplitsUptoRow.holds Try.pinned (OpenSpec.upto hashSplitsSpec)

/-- 'sawyerlaw15.HashSizes', WHERE WHAT IT READS IS OF BULK AT MOST 1048576: true; the input reads as it did. -/
def hashSizesUptoRow : OpenClaim := { program := "ytkbbdbnjplcjdaa", sum := "1db086ad2bb1dd1af2c0031d8bd9fb81c8b651c289d5a026dc3688ed9dac5e1c", func := "sawyer/sawyerlaw15.HashSizes", spec := "hashSizes", unfollowed := true, recurses := true, apart := false, narrowed := true }
def HashSizesUptoSaid : Prop := hashSizesUptoRow.holds Try.pinned (OpenSpec.upto hashSizesSpec)

/-- 'sawyerlaw15.HashSound', WHERE WHAT IT READS IS OF BULK AT MOST 1048576: true; the input reads as it did. -/
def hashSoundUptoRow : OpenClaim := { program := "ytkbbdbnjplcjdaa", sum := "1db086ad2bb1dd1af2c0031d8bd9fb81c8b651c289d5a026dc3688ed9dac5e1c", func := "sawyer/sawyerlaw15.HashSound", spec := "hashSound", unfollowed := true, recurses := true, apart := false, narrowed := true }
def HashSoundUptoSaid : Prop := hashSoundUptoRow.holds Try.pinned (OpenSpec.upto hashSoundSpec)

/-- 'sawyerlaw15.HashCollides', WHERE WHAT IT READS IS OF BULK AT MOST 1048576: true; the input reads as it did. -/
def hashCollidesUptoRow : OpenClaim := { program := "ytkbbdbnjplcjdaa", sum := "1db086ad2bb1dd1af2c0031d8bd9fb81c8b651c289d5a026dc3688ed9dac5e1c", func := "sawyer/sawyerlaw15.HashCollides", spec := "hashCollides", unfollowed := true, recurses := true, apart := false, narrowed := true }
def HashCollidesUptoSaid : Prop := hashCollidesUptoRow.holds Try.pinned (OpenSpec.upto hashCollidesSpec)

/-- 'sawyerlaw15.HashSame', WHERE WHAT IT READS IS OF BULK AT MOST 1048576: true; the input reads as it did. -/
def hashSameUptoRow : OpenClaim := { program := "ytkbbdbnjplcjdaa", sum := "1db086ad2bb1dd1af2c0031d8bd9fb81c8b651c289d5a026dc3688ed9dac5e1c", func := "sawyer/sawyerlaw15.HashSame", spec := "hashSame", unfollowed := true, recurses := true, apart := false, narrowed := true }
def HashSameUptoSaid : Prop := hashSameUptoRow.holds Try.pinned (OpenSpec.upto hashSameSpec)

end Rows
end Go.Proofs.Ytkbbdbnjplcjdaa
