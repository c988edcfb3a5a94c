/-
  DERIVED. GIVEN WITH THE SEED: THE CARDS: each row of YtoeibcdnhglobaaDoorRows.lean that lists a variable, with what it lists TIED to the program's text (the seventh form; the later family's looks); each row that meets fmt, with fmt's text TOLD by the authors' own Lean function (tested against real Go, not proved from fmt's source: count such statements apart). THE CARD IS WHAT COUNTS. Prove the row's statement (the work); the ties are given (YtoeibcdnhglobaaDoorTie.lean); close each card by the builder's one call (the guide's Derived/Test/ToyasCard.lean, 'card_holds'). Laid BY PROGRAM, IN A SANDBOX (cutbox-door.mjs). By AI agents, Wed Nov 11 2026. No macro, syntax, notation, axiom, sorry.
-/
import Derived.Test.YtoeibcdnhglobaaDoorRows
import GoSem.ClaimSeven
namespace Go.Proofs.YtoeibcdnhglobaaDoor
namespace Rows

/-- THE TIED CARD OF 'pantilelaw09.PeaksOwns'. -/
def peaksOwnsCard : Claim7 := { stood := { row := peaksOwnsRow, standIns := [], harness := (true, "53bf30ef16aaf192b06517020650b2d40216e061bebf53cc16c52a969b4ee52d"), looks := false }, kinds := [], alts := [], laidByText := true, laidKinds := [.data, .data], laidTests := true, laidLooks := .later }
def PeaksOwnsCardSaid : Prop := Claim7.holds Tryd.pinned (.plain (OpenSpec.ofChange peaksOwnsSpec)) peaksOwnsCard

/-- THE TIED CARD OF 'pantilelaw09.PeaksNumbers'. -/
def peaksNumbersCard : Claim7 := { stood := { row := peaksNumbersRow, standIns := [], harness := (true, "53bf30ef16aaf192b06517020650b2d40216e061bebf53cc16c52a969b4ee52d"), looks := false }, kinds := [], alts := [], laidByText := true, laidKinds := [.data, .data], laidTests := true, laidLooks := .later }
def PeaksNumbersCardSaid : Prop := Claim7.holds Tryd.pinned (.plain (OpenSpec.ofChange peaksNumbersSpec)) peaksNumbersCard

/-- THE TIED CARD OF 'pantilelaw09.PeaksGrow'. -/
def peaksGrowCard : Claim7 := { stood := { row := peaksGrowRow, standIns := [], harness := (true, "53bf30ef16aaf192b06517020650b2d40216e061bebf53cc16c52a969b4ee52d"), looks := false }, kinds := [], alts := [], laidByText := true, laidKinds := [.data, .data], laidTests := true, laidLooks := .later }
def PeaksGrowCardSaid : Prop := Claim7.holds Tryd.pinned (.plain (OpenSpec.ofChange peaksGrowSpec)) peaksGrowCard

/-- THE TIED CARD OF 'pantilelaw09.PeaksHashes'. -/
def peaksHashesCard : Claim7 := { stood := { row := peaksHashesRow, standIns := [], harness := (true, "53bf30ef16aaf192b06517020650b2d40216e061bebf53cc16c52a969b4ee52d"), looks := false }, kinds := [], alts := [], laidByText := true, laidKinds := [.data, .data, .data, .data], laidTests := true, laidLooks := .later }
def PeaksHashesCardSaid : Prop := Claim7.holds Tryd.pinned (.plain (OpenSpec.ofChange peaksHashesSpec)) peaksHashesCard

/-- THE TIED CARD OF 'pantilelaw09.PeaksFew'. -/
def peaksFewCard : Claim7 := { stood := { row := peaksFewRow, standIns := [], harness := (true, "53bf30ef16aaf192b06517020650b2d40216e061bebf53cc16c52a969b4ee52d"), looks := false }, kinds := [], alts := [], laidByText := true, laidKinds := [.data, .data, .data, .data], laidTests := true, laidLooks := .later }
def PeaksFewCardSaid : Prop := Claim7.holds Tryd.pinned (.plain (OpenSpec.ofChange peaksFewSpec)) peaksFewCard

/-- THE TIED CARD OF 'pantilelaw12.TilesNode'. -/
def tilesNodeCard : Claim7 := { stood := { row := tilesNodeRow, standIns := [], harness := (true, "53bf30ef16aaf192b06517020650b2d40216e061bebf53cc16c52a969b4ee52d"), looks := false }, kinds := [], alts := [], laidByText := true, laidKinds := [.data, .data, .data, .data], laidTests := true, laidLooks := .later }
def TilesNodeCardSaid : Prop := Claim7.holds Tryd.pinned (.plain (OpenSpec.ofChange tilesNodeSpec)) tilesNodeCard

/-- THE TIED CARD OF 'pantilelaw10.ProofProofs'. -/
def proofProofsCard : Claim7 := { stood := { row := proofProofsRow, standIns := [], harness := (true, "53bf30ef16aaf192b06517020650b2d40216e061bebf53cc16c52a969b4ee52d"), looks := false }, kinds := [], alts := [], laidByText := true, laidKinds := [.data, .data, .data, .data], laidTests := true, laidLooks := .later }
def ProofProofsCardSaid : Prop := Claim7.holds Tryd.pinned (.plain (OpenSpec.ofChange proofProofsSpec)) proofProofsCard

/-- THE TIED CARD OF 'pantilelaw10.ProofNodes'. -/
def proofNodesCard : Claim7 := { stood := { row := proofNodesRow, standIns := [], harness := (true, "53bf30ef16aaf192b06517020650b2d40216e061bebf53cc16c52a969b4ee52d"), looks := false }, kinds := [], alts := [], laidByText := true, laidKinds := [.data, .data, .data, .data], laidTests := true, laidLooks := .later }
def ProofNodesCardSaid : Prop := Claim7.holds Tryd.pinned (.plain (OpenSpec.ofChange proofNodesSpec)) proofNodesCard

/-- THE TIED CARD OF 'pantilelaw10.ProofChecks'. -/
def proofChecksCard : Claim7 := { stood := { row := proofChecksRow, standIns := [], harness := (true, "53bf30ef16aaf192b06517020650b2d40216e061bebf53cc16c52a969b4ee52d"), looks := false }, kinds := [], alts := [], laidByText := true, laidKinds := [.data, .data, .data, .data], laidTests := true, laidLooks := .later }
def ProofChecksCardSaid : Prop := Claim7.holds Tryd.pinned (.plain (OpenSpec.ofChange proofChecksSpec)) proofChecksCard

/-- THE TIED CARD OF 'pantilelaw12.TilesMake'. -/
def tilesMakeCard : Claim7 := { stood := { row := tilesMakeRow, standIns := [], harness := (true, "53bf30ef16aaf192b06517020650b2d40216e061bebf53cc16c52a969b4ee52d"), looks := false }, kinds := [], alts := [], laidByText := true, laidKinds := [.data, .data, .data, .data], laidTests := true, laidLooks := .later }
def TilesMakeCardSaid : Prop := Claim7.holds Tryd.pinned (.plain (OpenSpec.ofChange tilesMakeSpec)) tilesMakeCard

/-- THE TIED CARD OF 'pantilelaw10.ProofHolds'. -/
def proofHoldsCard : Claim7 := { stood := { row := proofHoldsRow, standIns := [], harness := (true, "53bf30ef16aaf192b06517020650b2d40216e061bebf53cc16c52a969b4ee52d"), looks := false }, kinds := [], alts := [], laidByText := true, laidKinds := [.data, .data, .data, .data], laidTests := true, laidLooks := .later }
def ProofHoldsCardSaid : Prop := Claim7.holds Tryd.pinned (.plain (OpenSpec.ofChange proofHoldsSpec)) proofHoldsCard

/-- THE TIED CARD OF 'pantilelaw10.ProofPrefix'. -/
def proofPrefixCard : Claim7 := { stood := { row := proofPrefixRow, standIns := [], harness := (true, "53bf30ef16aaf192b06517020650b2d40216e061bebf53cc16c52a969b4ee52d"), looks := false }, kinds := [], alts := [], laidByText := true, laidKinds := [.data, .data, .data, .data], laidTests := true, laidLooks := .later }
def ProofPrefixCardSaid : Prop := Claim7.holds Tryd.pinned (.plain (OpenSpec.ofChange proofPrefixSpec)) proofPrefixCard

/-- THE TIED CARD OF 'pantilelaw10.ProofLong'. -/
def proofLongCard : Claim7 := { stood := { row := proofLongRow, standIns := [], harness := (true, "53bf30ef16aaf192b06517020650b2d40216e061bebf53cc16c52a969b4ee52d"), looks := false }, kinds := [], alts := [], laidByText := true, laidKinds := [.data, .data, .data, .data], laidTests := true, laidLooks := .later }
def ProofLongCardSaid : Prop := Claim7.holds Tryd.pinned (.plain (OpenSpec.ofChange proofLongSpec)) proofLongCard

/-- THE TIED CARD OF 'pantilelaw10.ProofRound'. -/
def proofRoundCard : Claim7 := { stood := { row := proofRoundRow, standIns := [], harness := (true, "53bf30ef16aaf192b06517020650b2d40216e061bebf53cc16c52a969b4ee52d"), looks := false }, kinds := [], alts := [], laidByText := true, laidKinds := [.data, .data, .data, .data], laidTests := true, laidLooks := .later }
def ProofRoundCardSaid : Prop := Claim7.holds Tryd.pinned (.plain (OpenSpec.ofChange proofRoundSpec)) proofRoundCard

/-- THE TIED CARD OF 'pantilelaw15.NodesGrow'. -/
def nodesGrowCard : Claim7 := { stood := { row := nodesGrowRow, standIns := [], harness := (true, "53bf30ef16aaf192b06517020650b2d40216e061bebf53cc16c52a969b4ee52d"), looks := false }, kinds := [], alts := [], laidByText := true, laidKinds := [.data, .data, .data, .data, .data], laidTests := true, laidLooks := .later }
def NodesGrowCardSaid : Prop := Claim7.holds Tryd.pinned (.plain (OpenSpec.ofChange nodesGrowSpec)) nodesGrowCard

/-- THE TIED CARD OF 'pantilelaw15.NodesOwns'. -/
def nodesOwnsCard : Claim7 := { stood := { row := nodesOwnsRow, standIns := [], harness := (true, "53bf30ef16aaf192b06517020650b2d40216e061bebf53cc16c52a969b4ee52d"), looks := false }, kinds := [], alts := [], laidByText := true, laidKinds := [.data, .data, .data, .data, .data], laidTests := true, laidLooks := .later }
def NodesOwnsCardSaid : Prop := Claim7.holds Tryd.pinned (.plain (OpenSpec.ofChange nodesOwnsSpec)) nodesOwnsCard

/-- THE TIED CARD OF 'pantilelaw15.NodesParts'. -/
def nodesPartsCard : Claim7 := { stood := { row := nodesPartsRow, standIns := [], harness := (true, "53bf30ef16aaf192b06517020650b2d40216e061bebf53cc16c52a969b4ee52d"), looks := false }, kinds := [], alts := [], laidByText := true, laidKinds := [.data, .data, .data, .data, .data], laidTests := true, laidLooks := .later }
def NodesPartsCardSaid : Prop := Claim7.holds Tryd.pinned (.plain (OpenSpec.ofChange nodesPartsSpec)) nodesPartsCard

/-- THE TIED CARD OF 'pantilelaw15.NodesKeys'. -/
def nodesKeysCard : Claim7 := { stood := { row := nodesKeysRow, standIns := [], harness := (true, "53bf30ef16aaf192b06517020650b2d40216e061bebf53cc16c52a969b4ee52d"), looks := false }, kinds := [], alts := [], laidByText := true, laidKinds := [.data, .data, .data, .data, .data], laidTests := true, laidLooks := .later }
def NodesKeysCardSaid : Prop := Claim7.holds Tryd.pinned (.plain (OpenSpec.ofChange nodesKeysSpec)) nodesKeysCard

/-- THE SECOND FORM's CARD OF 'pantilelaw09.PeaksOwns'. -/
def peaksOwnsUptoCard : Claim7 := { stood := { row := peaksOwnsUptoRow, standIns := [], harness := (true, "53bf30ef16aaf192b06517020650b2d40216e061bebf53cc16c52a969b4ee52d"), looks := false }, kinds := [], alts := [], laidByText := true, laidKinds := [.data, .data], laidTests := true, laidLooks := .later }
def PeaksOwnsUptoCardSaid : Prop := Claim7.holds Tryd.pinned (.plain (OpenSpec.upto peaksOwnsSpec)) peaksOwnsUptoCard

/-- THE SECOND FORM's CARD OF 'pantilelaw09.PeaksNumbers'. -/
def peaksNumbersUptoCard : Claim7 := { stood := { row := peaksNumbersUptoRow, standIns := [], harness := (true, "53bf30ef16aaf192b06517020650b2d40216e061bebf53cc16c52a969b4ee52d"), looks := false }, kinds := [], alts := [], laidByText := true, laidKinds := [.data, .data], laidTests := true, laidLooks := .later }
def PeaksNumbersUptoCardSaid : Prop := Claim7.holds Tryd.pinned (.plain (OpenSpec.upto peaksNumbersSpec)) peaksNumbersUptoCard

/-- THE SECOND FORM's CARD OF 'pantilelaw09.PeaksGrow'. -/
def peaksGrowUptoCard : Claim7 := { stood := { row := peaksGrowUptoRow, standIns := [], harness := (true, "53bf30ef16aaf192b06517020650b2d40216e061bebf53cc16c52a969b4ee52d"), looks := false }, kinds := [], alts := [], laidByText := true, laidKinds := [.data, .data], laidTests := true, laidLooks := .later }
def PeaksGrowUptoCardSaid : Prop := Claim7.holds Tryd.pinned (.plain (OpenSpec.upto peaksGrowSpec)) peaksGrowUptoCard

/-- THE SECOND FORM's CARD OF 'pantilelaw09.PeaksHashes'. -/
def peaksHashesUptoCard : Claim7 := { stood := { row := peaksHashesUptoRow, standIns := [], harness := (true, "53bf30ef16aaf192b06517020650b2d40216e061bebf53cc16c52a969b4ee52d"), looks := false }, kinds := [], alts := [], laidByText := true, laidKinds := [.data, .data, .data, .data], laidTests := true, laidLooks := .later }
def PeaksHashesUptoCardSaid : Prop := Claim7.holds Tryd.pinned (.plain (OpenSpec.upto peaksHashesSpec)) peaksHashesUptoCard

/-- THE SECOND FORM's CARD OF 'pantilelaw09.PeaksFew'. -/
def peaksFewUptoCard : Claim7 := { stood := { row := peaksFewUptoRow, standIns := [], harness := (true, "53bf30ef16aaf192b06517020650b2d40216e061bebf53cc16c52a969b4ee52d"), looks := false }, kinds := [], alts := [], laidByText := true, laidKinds := [.data, .data, .data, .data], laidTests := true, laidLooks := .later }
def PeaksFewUptoCardSaid : Prop := Claim7.holds Tryd.pinned (.plain (OpenSpec.upto peaksFewSpec)) peaksFewUptoCard

/-- THE SECOND FORM's CARD OF 'pantilelaw12.TilesNode'. -/
def tilesNodeUptoCard : Claim7 := { stood := { row := tilesNodeUptoRow, standIns := [], harness := (true, "53bf30ef16aaf192b06517020650b2d40216e061bebf53cc16c52a969b4ee52d"), looks := false }, kinds := [], alts := [], laidByText := true, laidKinds := [.data, .data, .data, .data], laidTests := true, laidLooks := .later }
def TilesNodeUptoCardSaid : Prop := Claim7.holds Tryd.pinned (.plain (OpenSpec.upto tilesNodeSpec)) tilesNodeUptoCard

/-- THE SECOND FORM's CARD OF 'pantilelaw10.ProofProofs'. -/
def proofProofsUptoCard : Claim7 := { stood := { row := proofProofsUptoRow, standIns := [], harness := (true, "53bf30ef16aaf192b06517020650b2d40216e061bebf53cc16c52a969b4ee52d"), looks := false }, kinds := [], alts := [], laidByText := true, laidKinds := [.data, .data, .data, .data], laidTests := true, laidLooks := .later }
def ProofProofsUptoCardSaid : Prop := Claim7.holds Tryd.pinned (.plain (OpenSpec.upto proofProofsSpec)) proofProofsUptoCard

/-- THE SECOND FORM's CARD OF 'pantilelaw10.ProofNodes'. -/
def proofNodesUptoCard : Claim7 := { stood := { row := proofNodesUptoRow, standIns := [], harness := (true, "53bf30ef16aaf192b06517020650b2d40216e061bebf53cc16c52a969b4ee52d"), looks := false }, kinds := [], alts := [], laidByText := true, laidKinds := [.data, .data, .data, .data], laidTests := true, laidLooks := .later }
def ProofNodesUptoCardSaid : Prop := Claim7.holds Tryd.pinned (.plain (OpenSpec.upto proofNodesSpec)) proofNodesUptoCard

/-- THE SECOND FORM's CARD OF 'pantilelaw10.ProofChecks'. -/
def proofChecksUptoCard : Claim7 := { stood := { row := proofChecksUptoRow, standIns := [], harness := (true, "53bf30ef16aaf192b06517020650b2d40216e061bebf53cc16c52a969b4ee52d"), looks := false }, kinds := [], alts := [], laidByText := true, laidKinds := [.data, .data, .data, .data], laidTests := true, laidLooks := .later }
def ProofChecksUptoCardSaid : Prop := Claim7.holds Tryd.pinned (.plain (OpenSpec.upto proofChecksSpec)) proofChecksUptoCard

/-- THE SECOND FORM's CARD OF 'pantilelaw12.TilesMake'. -/
def tilesMakeUptoCard : Claim7 := { stood := { row := tilesMakeUptoRow, standIns := [], harness := (true, "53bf30ef16aaf192b06517020650b2d40216e061bebf53cc16c52a969b4ee52d"), looks := false }, kinds := [], alts := [], laidByText := true, laidKinds := [.data, .data, .data, .data], laidTests := true, laidLooks := .later }
def TilesMakeUptoCardSaid : Prop := Claim7.holds Tryd.pinned (.plain (OpenSpec.upto tilesMakeSpec)) tilesMakeUptoCard

/-- THE SECOND FORM's CARD OF 'pantilelaw10.ProofHolds'. -/
def proofHoldsUptoCard : Claim7 := { stood := { row := proofHoldsUptoRow, standIns := [], harness := (true, "53bf30ef16aaf192b06517020650b2d40216e061bebf53cc16c52a969b4ee52d"), looks := false }, kinds := [], alts := [], laidByText := true, laidKinds := [.data, .data, .data, .data], laidTests := true, laidLooks := .later }
def ProofHoldsUptoCardSaid : Prop := Claim7.holds Tryd.pinned (.plain (OpenSpec.upto proofHoldsSpec)) proofHoldsUptoCard

/-- THE SECOND FORM's CARD OF 'pantilelaw10.ProofPrefix'. -/
def proofPrefixUptoCard : Claim7 := { stood := { row := proofPrefixUptoRow, standIns := [], harness := (true, "53bf30ef16aaf192b06517020650b2d40216e061bebf53cc16c52a969b4ee52d"), looks := false }, kinds := [], alts := [], laidByText := true, laidKinds := [.data, .data, .data, .data], laidTests := true, laidLooks := .later }
def ProofPrefixUptoCardSaid : Prop := Claim7.holds Tryd.pinned (.plain (OpenSpec.upto proofPrefixSpec)) proofPrefixUptoCard

/-- THE SECOND FORM's CARD OF 'pantilelaw10.ProofLong'. -/
def proofLongUptoCard : Claim7 := { stood := { row := proofLongUptoRow, standIns := [], harness := (true, "53bf30ef16aaf192b06517020650b2d40216e061bebf53cc16c52a969b4ee52d"), looks := false }, kinds := [], alts := [], laidByText := true, laidKinds := [.data, .data, .data, .data], laidTests := true, laidLooks := .later }
def ProofLongUptoCardSaid : Prop := Claim7.holds Tryd.pinned (.plain (OpenSpec.upto proofLongSpec)) proofLongUptoCard

/-- THE SECOND FORM's CARD OF 'pantilelaw10.ProofRound'. -/
def proofRoundUptoCard : Claim7 := { stood := { row := proofRoundUptoRow, standIns := [], harness := (true, "53bf30ef16aaf192b06517020650b2d40216e061bebf53cc16c52a969b4ee52d"), looks := false }, kinds := [], alts := [], laidByText := true, laidKinds := [.data, .data, .data, .data], laidTests := true, laidLooks := .later }
def ProofRoundUptoCardSaid : Prop := Claim7.holds Tryd.pinned (.plain (OpenSpec.upto proofRoundSpec)) proofRoundUptoCard

/-- THE SECOND FORM's CARD OF 'pantilelaw15.NodesGrow'. -/
def nodesGrowUptoCard : Claim7 := { stood := { row := nodesGrowUptoRow, standIns := [], harness := (true, "53bf30ef16aaf192b06517020650b2d40216e061bebf53cc16c52a969b4ee52d"), looks := false }, kinds := [], alts := [], laidByText := true, laidKinds := [.data, .data, .data, .data, .data], laidTests := true, laidLooks := .later }
def NodesGrowUptoCardSaid : Prop := Claim7.holds Tryd.pinned (.plain (OpenSpec.upto nodesGrowSpec)) nodesGrowUptoCard

/-- THE SECOND FORM's CARD OF 'pantilelaw15.NodesOwns'. -/
def nodesOwnsUptoCard : Claim7 := { stood := { row := nodesOwnsUptoRow, standIns := [], harness := (true, "53bf30ef16aaf192b06517020650b2d40216e061bebf53cc16c52a969b4ee52d"), looks := false }, kinds := [], alts := [], laidByText := true, laidKinds := [.data, .data, .data, .data, .data], laidTests := true, laidLooks := .later }
def NodesOwnsUptoCardSaid : Prop := Claim7.holds Tryd.pinned (.plain (OpenSpec.upto nodesOwnsSpec)) nodesOwnsUptoCard

/-- THE SECOND FORM's CARD OF 'pantilelaw15.NodesParts'. -/
def nodesPartsUptoCard : Claim7 := { stood := { row := nodesPartsUptoRow, standIns := [], harness := (true, "53bf30ef16aaf192b06517020650b2d40216e061bebf53cc16c52a969b4ee52d"), looks := false }, kinds := [], alts := [], laidByText := true, laidKinds := [.data, .data, .data, .data, .data], laidTests := true, laidLooks := .later }
def NodesPartsUptoCardSaid : Prop := Claim7.holds Tryd.pinned (.plain (OpenSpec.upto nodesPartsSpec)) nodesPartsUptoCard

/-- THE SECOND FORM's CARD OF 'pantilelaw15.NodesKeys'. -/
def nodesKeysUptoCard : Claim7 := { stood := { row := nodesKeysUptoRow, standIns := [], harness := (true, "53bf30ef16aaf192b06517020650b2d40216e061bebf53cc16c52a969b4ee52d"), looks := false }, kinds := [], alts := [], laidByText := true, laidKinds := [.data, .data, .data, .data, .data], laidTests := true, laidLooks := .later }
def NodesKeysUptoCardSaid : Prop := Claim7.holds Tryd.pinned (.plain (OpenSpec.upto nodesKeysSpec)) nodesKeysUptoCard
end Rows
end Go.Proofs.YtoeibcdnhglobaaDoor
