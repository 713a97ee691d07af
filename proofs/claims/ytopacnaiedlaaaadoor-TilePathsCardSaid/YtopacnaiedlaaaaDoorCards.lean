/-
  DERIVED. GIVEN WITH THE SEED: THE CARDS: each row of YtopacnaiedlaaaaDoorRows.lean that lists a variable, with what it lists TIED to the program's text (the seventh form; the later family's looks); each row that meets fmt, with fmt's text TOLD by the authors' own Lean function (tested against real Go, not proved from fmt's source: count such statements apart). THE CARD IS WHAT COUNTS. Prove the row's statement (the work); the ties are given (YtopacnaiedlaaaaDoorTie.lean); close each card by the builder's one call (the guide's Derived/Test/ToyasCard.lean, 'card_holds'). Laid BY PROGRAM, IN A SANDBOX (cutbox-door.mjs). By AI agents, Wed Nov 11 2026. No macro, syntax, notation, axiom, sorry.
-/
import Derived.Test.YtopacnaiedlaaaaDoorRows
import GoSem.ClaimSeven
namespace Go.Proofs.YtopacnaiedlaaaaDoor
namespace Rows

/-- THE TIED CARD OF 'sawyerlaw17.TileNews'. -/
def tileNewsCard : Claim7 := { stood := { row := tileNewsRow, standIns := [], harness := (true, "2b2d1253fce015fe5767d6561b4b743f708c715a675aa58e40340db06486b8f1"), looks := false }, kinds := [], alts := [], laidByText := true, laidKinds := [.data, .data], laidTests := true, laidLooks := .later }
def TileNewsCardSaid : Prop := Claim7.holds Tryd.pinned (.plain (OpenSpec.ofChange tileNewsSpec)) tileNewsCard

/-- THE TIED CARD OF 'sawyerlaw17.TileAsks'. -/
def tileAsksCard : Claim7 := { stood := { row := tileAsksRow, standIns := [], harness := (true, "2b2d1253fce015fe5767d6561b4b743f708c715a675aa58e40340db06486b8f1"), looks := false }, kinds := [], alts := [], laidByText := true, laidKinds := [.data, .data], laidTests := true, laidLooks := .later }
def TileAsksCardSaid : Prop := Claim7.holds Tryd.pinned (.plain (OpenSpec.ofChange tileAsksSpec)) tileAsksCard

/-- THE TIED CARD OF 'sawyerlaw17.TileFolds'. -/
def tileFoldsCard : Claim7 := { stood := { row := tileFoldsRow, standIns := [], harness := (true, "2b2d1253fce015fe5767d6561b4b743f708c715a675aa58e40340db06486b8f1"), looks := false }, kinds := [], alts := [], laidByText := true, laidKinds := [.data, .data], laidTests := true, laidLooks := .later }
def TileFoldsCardSaid : Prop := Claim7.holds Tryd.pinned (.plain (OpenSpec.ofChange tileFoldsSpec)) tileFoldsCard

/-- THE TIED CARD OF 'sawyerlaw17.TileCovers'. -/
def tileCoversCard : Claim7 := { stood := { row := tileCoversRow, standIns := [], harness := (true, "2b2d1253fce015fe5767d6561b4b743f708c715a675aa58e40340db06486b8f1"), looks := false }, kinds := [], alts := [], laidByText := true, laidKinds := [.data, .data], laidTests := true, laidLooks := .later }
def TileCoversCardSaid : Prop := Claim7.holds Tryd.pinned (.plain (OpenSpec.ofChange tileCoversSpec)) tileCoversCard

/-- THE TIED CARD OF 'sawyerlaw17.TilePaths'. -/
def tilePathsCard : Claim7 := { stood := { row := tilePathsRow, standIns := [], harness := (true, "2b2d1253fce015fe5767d6561b4b743f708c715a675aa58e40340db06486b8f1"), looks := false }, kinds := [], alts := [], laidByText := true, laidKinds := [.data, .data], laidTests := true, laidLooks := .later }
def TilePathsCardSaid : Prop := Claim7.holds Tryd.pinned (.plain (OpenSpec.ofChange tilePathsSpec)) tilePathsCard

/-- THE SECOND FORM's CARD OF 'sawyerlaw17.TileNews'. -/
def tileNewsUptoCard : Claim7 := { stood := { row := tileNewsUptoRow, standIns := [], harness := (true, "2b2d1253fce015fe5767d6561b4b743f708c715a675aa58e40340db06486b8f1"), looks := false }, kinds := [], alts := [], laidByText := true, laidKinds := [.data, .data], laidTests := true, laidLooks := .later }
def TileNewsUptoCardSaid : Prop := Claim7.holds Tryd.pinned (.plain (OpenSpec.upto tileNewsSpec)) tileNewsUptoCard

/-- THE SECOND FORM's CARD OF 'sawyerlaw17.TileAsks'. -/
def tileAsksUptoCard : Claim7 := { stood := { row := tileAsksUptoRow, standIns := [], harness := (true, "2b2d1253fce015fe5767d6561b4b743f708c715a675aa58e40340db06486b8f1"), looks := false }, kinds := [], alts := [], laidByText := true, laidKinds := [.data, .data], laidTests := true, laidLooks := .later }
def TileAsksUptoCardSaid : Prop := Claim7.holds Tryd.pinned (.plain (OpenSpec.upto tileAsksSpec)) tileAsksUptoCard

/-- THE SECOND FORM's CARD OF 'sawyerlaw17.TileFolds'. -/
def tileFoldsUptoCard : Claim7 := { stood := { row := tileFoldsUptoRow, standIns := [], harness := (true, "2b2d1253fce015fe5767d6561b4b743f708c715a675aa58e40340db06486b8f1"), looks := false }, kinds := [], alts := [], laidByText := true, laidKinds := [.data, .data], laidTests := true, laidLooks := .later }
def TileFoldsUptoCardSaid : Prop := Claim7.holds Tryd.pinned (.plain (OpenSpec.upto tileFoldsSpec)) tileFoldsUptoCard

/-- THE SECOND FORM's CARD OF 'sawyerlaw17.TileCovers'. -/
def tileCoversUptoCard : Claim7 := { stood := { row := tileCoversUptoRow, standIns := [], harness := (true, "2b2d1253fce015fe5767d6561b4b743f708c715a675aa58e40340db06486b8f1"), looks := false }, kinds := [], alts := [], laidByText := true, laidKinds := [.data, .data], laidTests := true, laidLooks := .later }
def TileCoversUptoCardSaid : Prop := Claim7.holds Tryd.pinned (.plain (OpenSpec.upto tileCoversSpec)) tileCoversUptoCard

/-- THE SECOND FORM's CARD OF 'sawyerlaw17.TilePaths'. -/
def tilePathsUptoCard : Claim7 := { stood := { row := tilePathsUptoRow, standIns := [], harness := (true, "2b2d1253fce015fe5767d6561b4b743f708c715a675aa58e40340db06486b8f1"), looks := false }, kinds := [], alts := [], laidByText := true, laidKinds := [.data, .data], laidTests := true, laidLooks := .later }
def TilePathsUptoCardSaid : Prop := Claim7.holds Tryd.pinned (.plain (OpenSpec.upto tilePathsSpec)) tilePathsUptoCard
end Rows
end Go.Proofs.YtopacnaiedlaaaaDoor
