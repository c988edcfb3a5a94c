/-
  No cell of these rows narrows 'for every input' (looked for: loops, veiled, ifaces, maps, wideKeys, modest, calm, conditions, laid).
  DERIVED. THE GIVEN ROWS OF THIS SEAT. 5 by the template 'for every input the law returns true; each argument reads behind the call as it read before'; 0 by the template 'total and deterministic' (their statements: YtoeibcdnhglobaaTotals.lean).
  GIVEN WITH THE SEED: the statements are not yours to turn. If you find one false, say at which input.
  Laid BY PROGRAM, IN A SANDBOX (cutbox-rows.mjs): the forced cells as the released guide's own fill.sh prints them over the translation ff72ed25b0185adc… (all of the seat's roots in one cut). By AI agents, Wed Nov 11 2026. No macro, syntax, notation, axiom, sorry.
-/
import Derived.Test.YtoeibcdnhglobaaChecked
import GoSem.Claim
import GoSem.ClaimJoined
import GoSem.ClaimMapViews
import Derived.JoinedTies
import Derived.KernelRfl
namespace Go.Proofs.Ytoeibcdnhglobaa
/- THE CELL 'sum', in the pinned program and in every row, IS THE sha256 OF THE DUMP (.gsa) THAT YtoeibcdnhglobaaProg.lean LOADS. Nothing in Lean hashes anything: it is a label: what it is worth is what the hold of that sum in a sandbox is worth. -/
noncomputable def Try.pinned : Pinned := { name := "ytoeibcdnhglobaa", sum := "ff72ed25b0185adc32f4ed0cba8d619ea7523f265206e6c5e5efa611bdec9e42", checked := Try.checked }
namespace Rows
def none {H : Type} : Left H := { results := [], args := [] }

/-- 'pantilelaw12.TilesAll': WHATEVER THE INPUT: true; the input reads as it did. -/
def tilesAllSpec : ChangeSpec := { name := "tilesAll", fn := fun _ => fun
  | [d1, d2, d3] => { results := [.lit (.bool true)], args := [d1, d2, d3] }
  | _ => none }
def tilesAllRow : OpenClaim := { program := "ytoeibcdnhglobaa", sum := "ff72ed25b0185adc32f4ed0cba8d619ea7523f265206e6c5e5efa611bdec9e42", func := "pantile/pantilelaw12.TilesAll", spec := "tilesAll", unfollowed := true, recurses := true, apart := false }
def TilesAllSaid : Prop := tilesAllRow.holds Try.pinned (OpenSpec.ofChange tilesAllSpec)

/-- ITS FALSE NEIGHBOUR: 'it returns false'. Refute it at one input. -/
def tilesAllWrong : ChangeSpec := { name := "tilesAll", fn := fun _ => fun
  | [d1, d2, d3] => { results := [.lit (.bool false)], args := [d1, d2, d3] }
  | _ => none }
def TilesAllWrongFalsely : Prop := tilesAllRow.holds Try.pinned (OpenSpec.ofChange tilesAllWrong)

/-- 'pantilelaw12.TilesPlace': WHATEVER THE INPUT: true; the input reads as it did. -/
def tilesPlaceSpec : ChangeSpec := { name := "tilesPlace", fn := fun _ => fun
  | [d1, d2] => { results := [.lit (.bool true)], args := [d1, d2] }
  | _ => none }
def tilesPlaceRow : OpenClaim := { program := "ytoeibcdnhglobaa", sum := "ff72ed25b0185adc32f4ed0cba8d619ea7523f265206e6c5e5efa611bdec9e42", func := "pantile/pantilelaw12.TilesPlace", spec := "tilesPlace", unfollowed := true, recurses := true, apart := false }
def TilesPlaceSaid : Prop := tilesPlaceRow.holds Try.pinned (OpenSpec.ofChange tilesPlaceSpec)

/-- ITS FALSE NEIGHBOUR: 'it returns false'. Refute it at one input. -/
def tilesPlaceWrong : ChangeSpec := { name := "tilesPlace", fn := fun _ => fun
  | [d1, d2] => { results := [.lit (.bool false)], args := [d1, d2] }
  | _ => none }
def TilesPlaceWrongFalsely : Prop := tilesPlaceRow.holds Try.pinned (OpenSpec.ofChange tilesPlaceWrong)

/-- 'pantilelaw12.TilesPlaces': WHATEVER THE INPUT: true; the input reads as it did. -/
def tilesPlacesSpec : ChangeSpec := { name := "tilesPlaces", fn := fun _ => fun
  | [d] => { results := [.lit (.bool true)], args := [d] }
  | _ => none }
def tilesPlacesRow : OpenClaim := { program := "ytoeibcdnhglobaa", sum := "ff72ed25b0185adc32f4ed0cba8d619ea7523f265206e6c5e5efa611bdec9e42", func := "pantile/pantilelaw12.TilesPlaces", spec := "tilesPlaces", unfollowed := true, recurses := true, apart := false }
def TilesPlacesSaid : Prop := tilesPlacesRow.holds Try.pinned (OpenSpec.ofChange tilesPlacesSpec)

/-- ITS FALSE NEIGHBOUR: 'it returns false'. Refute it at one input. -/
def tilesPlacesWrong : ChangeSpec := { name := "tilesPlaces", fn := fun _ => fun
  | [d] => { results := [.lit (.bool false)], args := [d] }
  | _ => none }
def TilesPlacesWrongFalsely : Prop := tilesPlacesRow.holds Try.pinned (OpenSpec.ofChange tilesPlacesWrong)

/-- 'pantilelaw12.TilesNews': WHATEVER THE INPUT: true; the input reads as it did. -/
def tilesNewsSpec : ChangeSpec := { name := "tilesNews", fn := fun _ => fun
  | [d1, d2] => { results := [.lit (.bool true)], args := [d1, d2] }
  | _ => none }
def tilesNewsRow : OpenClaim := { program := "ytoeibcdnhglobaa", sum := "ff72ed25b0185adc32f4ed0cba8d619ea7523f265206e6c5e5efa611bdec9e42", func := "pantile/pantilelaw12.TilesNews", spec := "tilesNews", unfollowed := true, recurses := true, apart := false }
def TilesNewsSaid : Prop := tilesNewsRow.holds Try.pinned (OpenSpec.ofChange tilesNewsSpec)

/-- ITS FALSE NEIGHBOUR: 'it returns false'. Refute it at one input. -/
def tilesNewsWrong : ChangeSpec := { name := "tilesNews", fn := fun _ => fun
  | [d1, d2] => { results := [.lit (.bool false)], args := [d1, d2] }
  | _ => none }
def TilesNewsWrongFalsely : Prop := tilesNewsRow.holds Try.pinned (OpenSpec.ofChange tilesNewsWrong)

/-- 'pantilelaw12.TilesCount': WHATEVER THE INPUT: true; the input reads as it did. -/
def tilesCountSpec : ChangeSpec := { name := "tilesCount", fn := fun _ => fun
  | [d] => { results := [.lit (.bool true)], args := [d] }
  | _ => none }
def tilesCountRow : OpenClaim := { program := "ytoeibcdnhglobaa", sum := "ff72ed25b0185adc32f4ed0cba8d619ea7523f265206e6c5e5efa611bdec9e42", func := "pantile/pantilelaw12.TilesCount", spec := "tilesCount", unfollowed := true, recurses := true, apart := false }
def TilesCountSaid : Prop := tilesCountRow.holds Try.pinned (OpenSpec.ofChange tilesCountSpec)

/-- ITS FALSE NEIGHBOUR: 'it returns false'. Refute it at one input. -/
def tilesCountWrong : ChangeSpec := { name := "tilesCount", fn := fun _ => fun
  | [d] => { results := [.lit (.bool false)], args := [d] }
  | _ => none }
def TilesCountWrongFalsely : Prop := tilesCountRow.holds Try.pinned (OpenSpec.ofChange tilesCountWrong)

/- THE SECOND FORM. 'bulk': how many values and letters a reading holds, each counted each time it is reached (what is shared counts as often as it is met; a slice's spare places count too). A statement '..UptoSaid' is the law's where the arguments, and the package variables that the reading takes, are together of bulk at most 1048576: NARROWER than '..Said'. Prove '..Said' where nothing that the law and all that it calls make is longer than what came in: it says more and counts as full. Else prove '..UptoSaid'. A law counts once. -/
mutual
def uptoBulk {H : Type} : DataW H → Nat
  | .lit (.string bytes) => bytes.length + 1
  | .lit _ => 1
  | .nil => 1
  | .ptr d => uptoBulk d + 1
  | .slice elems spare => uptoBulkAll elems + uptoBulkAll spare + 1
  | .agg parts => uptoBulkAll parts + 1
  | .iface _ d => uptoBulk d + 1
  | .map entries => uptoBulkEntries entries + 1
  | .held _ => 1
def uptoBulkAll {H : Type} : List (DataW H) → Nat
  | [] => 0
  | d :: r => uptoBulk d + uptoBulkAll r
def uptoBulkEntries {H : Type} : List (Lit × DataW H) → Nat
  | [] => 0
  | x :: r => uptoBulkEntry x + uptoBulkEntries r
def uptoBulkEntry {H : Type} : Lit × DataW H → Nat
  | (.string bytes, d) => bytes.length + uptoBulk d + 1
  | (_, d) => uptoBulk d + 1
 end
def uptoSmall : (H : Type) → List (DataW H) → Bool := fun _ ds => decide (uptoBulkAll ds ≤ 1048576)
def OpenSpec.upto (s : _root_.Go.ChangeSpec) : _root_.Go.OpenSpec := { _root_.Go.OpenSpec.ofChange s with cond := some uptoSmall }

/-- 'pantilelaw12.TilesAll', WHERE WHAT IT READS IS OF BULK AT MOST 1048576: true; the input reads as it did. -/
def tilesAllUptoRow : OpenClaim := { program := "ytoeibcdnhglobaa", sum := "ff72ed25b0185adc32f4ed0cba8d619ea7523f265206e6c5e5efa611bdec9e42", func := "pantile/pantilelaw12.TilesAll", spec := "tilesAll", unfollowed := true, recurses := true, apart := false, narrowed := true }
def TilesAllUptoSaid : Prop := tilesAllUptoRow.holds Try.pinned (OpenSpec.upto tilesAllSpec)

/-- 'pantilelaw12.TilesPlace', WHERE WHAT IT READS IS OF BULK AT MOST 1048576: true; the input reads as it did. -/
def tilesPlaceUptoRow : OpenClaim := { program := "ytoeibcdnhglobaa", sum := "ff72ed25b0185adc32f4ed0cba8d619ea7523f265206e6c5e5efa611bdec9e42", func := "pantile/pantilelaw12.TilesPlace", spec := "tilesPlace", unfollowed := true, recurses := true, apart := false, narrowed := true }
def TilesPlaceUptoSaid : Prop := tilesPlaceUptoRow.holds Try.pinned (OpenSpec.upto tilesPlaceSpec)

/-- 'pantilelaw12.TilesPlaces', WHERE WHAT IT READS IS OF BULK AT MOST 1048576: true; the input reads as it did. -/
def tilesPlacesUptoRow : OpenClaim := { program := "ytoeibcdnhglobaa", sum := "ff72ed25b0185adc32f4ed0cba8d619ea7523f265206e6c5e5efa611bdec9e42", func := "pantile/pantilelaw12.TilesPlaces", spec := "tilesPlaces", unfollowed := true, recurses := true, apart := false, narrowed := true }
def TilesPlacesUptoSaid : Prop := tilesPlacesUptoRow.holds Try.pinned (OpenSpec.upto tilesPlacesSpec)

/-- 'pantilelaw12.TilesNews', WHERE WHAT IT READS IS OF BULK AT MOST 1048576: true; the input reads as it did. -/
def tilesNewsUptoRow : OpenClaim := { program := "ytoeibcdnhglobaa", sum := "ff72ed25b0185adc32f4ed0cba8d619ea7523f265206e6c5e5efa611bdec9e42", func := "pantile/pantilelaw12.TilesNews", spec := "tilesNews", unfollowed := true, recurses := true, apart := false, narrowed := true }
def TilesNewsUptoSaid : Prop := tilesNewsUptoRow.holds Try.pinned (OpenSpec.upto tilesNewsSpec)

/-- 'pantilelaw12.TilesCount', WHERE WHAT IT READS IS OF BULK AT MOST 1048576: true; the input reads as it did. -/
def tilesCountUptoRow : OpenClaim := { program := "ytoeibcdnhglobaa", sum := "ff72ed25b0185adc32f4ed0cba8d619ea7523f265206e6c5e5efa611bdec9e42", func := "pantile/pantilelaw12.TilesCount", spec := "tilesCount", unfollowed := true, recurses := true, apart := false, narrowed := true }
def TilesCountUptoSaid : Prop := tilesCountUptoRow.holds Try.pinned (OpenSpec.upto tilesCountSpec)

end Rows
end Go.Proofs.Ytoeibcdnhglobaa
