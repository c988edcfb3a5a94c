/-
  NARROWER THAN 'FOR EVERY INPUT', by the rows' own cells (each row's printed sentence says how): PeaksOwns: laid · PeaksNumbers: laid · PeaksGrow: laid · PeaksHashes: laid · PeaksFew: laid · TilesNode: laid · ProofProofs: laid · ProofNodes: laid · ProofChecks: laid · TilesMake: laid · ProofHolds: laid · ProofPrefix: laid · ProofLong: laid · ProofRound: laid · NodesGrow: laid · NodesOwns: laid · NodesParts: laid · NodesKeys: laid.
  DERIVED. THE GIVEN ROWS OF THIS SEAT. 18 by the template 'for every input the law returns true; each argument reads behind the call as it read before'; 0 by the template 'total and deterministic' (their statements: YtoeibcdnhglobaaDoorTotals.lean).
  GIVEN WITH THE SEED: the statements are not yours to turn. If you find one false, say at which input.
  Laid BY PROGRAM, IN A SANDBOX (cutbox-rows.mjs): the forced cells as the released guide's own fill.sh prints them over the translation b825107a2a2ebe52… (all of the seat's roots in one cut). By AI agents, Wed Nov 11 2026. No macro, syntax, notation, axiom, sorry.
-/
import Derived.Test.YtoeibcdnhglobaaDoorChecked
import GoSem.Claim
import GoSem.ClaimJoined
import GoSem.ClaimMapViews
import Derived.JoinedTies
import Derived.KernelRfl
namespace Go.Proofs.YtoeibcdnhglobaaDoor
/- THE CELL 'sum', in the pinned program and in every row, IS THE sha256 OF THE DUMP (.gsa) THAT YtoeibcdnhglobaaDoorProg.lean LOADS. Nothing in Lean hashes anything: it is a label: what it is worth is what the hold of that sum in a sandbox is worth. -/
noncomputable def Tryd.pinned : Pinned := { name := "ytoeibcdnhglobaadoor", sum := "b825107a2a2ebe52bfc75113b810e065ea53d6485cac6dcf0e1fb8ea4bad9a55", checked := Tryd.checked }
namespace Rows
def none {H : Type} : Left H := { results := [], args := [] }

/- WHAT THE LISTED PACKAGE-LEVEL VARIABLES READ AS WHEN THE CALL BEGINS. Each datum BY PROGRAM (the guide's laid-datum.mjs) off the statement by which the dump's own 'gosem.cut.vars' lays the variable. In a bare row this is a premise. The card (YtoeibcdnhglobaaDoorCards.lean) ties it to the program's text. -/
def laid_math_bits_deBruijn32tab {H : Type} : DataW H := .agg [.lit (.int .u8 0), .lit (.int .u8 1), .lit (.int .u8 28), .lit (.int .u8 2), .lit (.int .u8 29), .lit (.int .u8 14), .lit (.int .u8 24), .lit (.int .u8 3), .lit (.int .u8 30), .lit (.int .u8 22), .lit (.int .u8 20), .lit (.int .u8 15), .lit (.int .u8 25), .lit (.int .u8 17), .lit (.int .u8 4), .lit (.int .u8 8), .lit (.int .u8 31), .lit (.int .u8 27), .lit (.int .u8 13), .lit (.int .u8 23), .lit (.int .u8 21), .lit (.int .u8 19), .lit (.int .u8 16), .lit (.int .u8 7), .lit (.int .u8 26), .lit (.int .u8 12), .lit (.int .u8 18), .lit (.int .u8 6), .lit (.int .u8 11), .lit (.int .u8 5), .lit (.int .u8 10), .lit (.int .u8 9)]
def laid_math_bits_deBruijn64tab {H : Type} : DataW H := .agg [.lit (.int .u8 0), .lit (.int .u8 1), .lit (.int .u8 56), .lit (.int .u8 2), .lit (.int .u8 57), .lit (.int .u8 49), .lit (.int .u8 28), .lit (.int .u8 3), .lit (.int .u8 61), .lit (.int .u8 58), .lit (.int .u8 42), .lit (.int .u8 50), .lit (.int .u8 38), .lit (.int .u8 29), .lit (.int .u8 17), .lit (.int .u8 4), .lit (.int .u8 62), .lit (.int .u8 47), .lit (.int .u8 59), .lit (.int .u8 36), .lit (.int .u8 45), .lit (.int .u8 43), .lit (.int .u8 51), .lit (.int .u8 22), .lit (.int .u8 53), .lit (.int .u8 39), .lit (.int .u8 33), .lit (.int .u8 30), .lit (.int .u8 24), .lit (.int .u8 18), .lit (.int .u8 12), .lit (.int .u8 5), .lit (.int .u8 63), .lit (.int .u8 55), .lit (.int .u8 48), .lit (.int .u8 27), .lit (.int .u8 60), .lit (.int .u8 41), .lit (.int .u8 37), .lit (.int .u8 16), .lit (.int .u8 46), .lit (.int .u8 35), .lit (.int .u8 44), .lit (.int .u8 21), .lit (.int .u8 52), .lit (.int .u8 32), .lit (.int .u8 23), .lit (.int .u8 11), .lit (.int .u8 54), .lit (.int .u8 26), .lit (.int .u8 40), .lit (.int .u8 15), .lit (.int .u8 34), .lit (.int .u8 20), .lit (.int .u8 31), .lit (.int .u8 10), .lit (.int .u8 25), .lit (.int .u8 14), .lit (.int .u8 19), .lit (.int .u8 9), .lit (.int .u8 13), .lit (.int .u8 8), .lit (.int .u8 7), .lit (.int .u8 6)]
def laid_pantile_digest_k {H : Type} : DataW H := .agg [.lit (.int .u64 4794697086780616226), .lit (.int .u64 8158064640168781261), .lit (.int .u64 13096744586834688815), .lit (.int .u64 16840607885511220156), .lit (.int .u64 4131703408338449720), .lit (.int .u64 6480981068601479193), .lit (.int .u64 10538285296894168987), .lit (.int .u64 12329834152419229976), .lit (.int .u64 15566598209576043074), .lit (.int .u64 1334009975649890238), .lit (.int .u64 2608012711638119052), .lit (.int .u64 6128411473006802146), .lit (.int .u64 8268148722764581231), .lit (.int .u64 9286055187155687089), .lit (.int .u64 11230858885718282805), .lit (.int .u64 13951009754708518548), .lit (.int .u64 16472876342353939154), .lit (.int .u64 17275323862435702243), .lit (.int .u64 1135362057144423861), .lit (.int .u64 2597628984639134821), .lit (.int .u64 3308224258029322869), .lit (.int .u64 5365058923640841347), .lit (.int .u64 6679025012923562964), .lit (.int .u64 8573033837759648693), .lit (.int .u64 10970295158949994411), .lit (.int .u64 12119686244451234320), .lit (.int .u64 12683024718118986047), .lit (.int .u64 13788192230050041572), .lit (.int .u64 14330467153632333762), .lit (.int .u64 15395433587784984357), .lit (.int .u64 489312712824947311), .lit (.int .u64 1452737877330783856), .lit (.int .u64 2861767655752347644), .lit (.int .u64 3322285676063803686), .lit (.int .u64 5560940570517711597), .lit (.int .u64 5996557281743188959), .lit (.int .u64 7280758554555802590), .lit (.int .u64 8532644243296465576), .lit (.int .u64 9350256976987008742), .lit (.int .u64 10552545826968843579), .lit (.int .u64 11727347734174303076), .lit (.int .u64 12113106623233404929), .lit (.int .u64 14000437183269869457), .lit (.int .u64 14369950271660146224), .lit (.int .u64 15101387698204529176), .lit (.int .u64 15463397548674623760), .lit (.int .u64 17586052441742319658), .lit (.int .u64 1182934255886127544), .lit (.int .u64 1847814050463011016), .lit (.int .u64 2177327727835720531), .lit (.int .u64 2830643537854262169), .lit (.int .u64 3796741975233480872), .lit (.int .u64 4115178125766777443), .lit (.int .u64 5681478168544905931), .lit (.int .u64 6601373596472566643), .lit (.int .u64 7507060721942968483), .lit (.int .u64 8399075790359081724), .lit (.int .u64 8693463985226723168), .lit (.int .u64 9568029438360202098), .lit (.int .u64 10144078919501101548), .lit (.int .u64 10430055236837252648), .lit (.int .u64 11840083180663258601), .lit (.int .u64 13761210420658862357), .lit (.int .u64 14299343276471374635), .lit (.int .u64 14566680578165727644), .lit (.int .u64 15097957966210449927), .lit (.int .u64 16922976911328602910), .lit (.int .u64 17689382322260857208), .lit (.int .u64 500013540394364858), .lit (.int .u64 748580250866718886), .lit (.int .u64 1242879168328830382), .lit (.int .u64 1977374033974150939), .lit (.int .u64 2944078676154940804), .lit (.int .u64 3659926193048069267), .lit (.int .u64 4368137639120453308), .lit (.int .u64 4836135668995329356), .lit (.int .u64 5532061633213252278), .lit (.int .u64 6448918945643986474), .lit (.int .u64 6902733635092675308), .lit (.int .u64 7801388544844847127)]
def laid_pantile_digest_begins {H : Type} : DataW H := .agg [.lit (.int .u64 7640891576956012808), .lit (.int .u64 13503953896175478587), .lit (.int .u64 4354685564936845355), .lit (.int .u64 11912009170470909681), .lit (.int .u64 5840696475078001361), .lit (.int .u64 11170449401992604703), .lit (.int .u64 2270897969802886507), .lit (.int .u64 6620516959819538809)]
def laid_internal_strconv_uint64pow10 {H : Type} : DataW H := .agg [.lit (.int .u64 1), .lit (.int .u64 10), .lit (.int .u64 100), .lit (.int .u64 1000), .lit (.int .u64 10000), .lit (.int .u64 100000), .lit (.int .u64 1000000), .lit (.int .u64 10000000), .lit (.int .u64 100000000), .lit (.int .u64 1000000000), .lit (.int .u64 10000000000), .lit (.int .u64 100000000000), .lit (.int .u64 1000000000000), .lit (.int .u64 10000000000000), .lit (.int .u64 100000000000000), .lit (.int .u64 1000000000000000), .lit (.int .u64 10000000000000000), .lit (.int .u64 100000000000000000), .lit (.int .u64 1000000000000000000), .lit (.int .u64 10000000000000000000)]

/-- 'pantilelaw09.PeaksOwns': WHATEVER THE INPUT: true; the input reads as it did. -/
def peaksOwnsSpec : ChangeSpec := { name := "peaksOwns", fn := fun _ => fun
  | [d] => { results := [.lit (.bool true)], args := [d] }
  | _ => none }
def peaksOwnsRow : OpenClaim := { program := "ytoeibcdnhglobaadoor", sum := "b825107a2a2ebe52bfc75113b810e065ea53d6485cac6dcf0e1fb8ea4bad9a55", func := "pantile/pantilelaw09.PeaksOwns", spec := "peaksOwns", unfollowed := true, recurses := true, named := ["math/bits.deBruijn32tab", "math/bits.deBruijn64tab"], apart := false, laid := [("math/bits.deBruijn32tab", laid_math_bits_deBruijn32tab), ("math/bits.deBruijn64tab", laid_math_bits_deBruijn64tab)] }
def PeaksOwnsSaid : Prop := peaksOwnsRow.holds Tryd.pinned (OpenSpec.ofChange peaksOwnsSpec)

/-- ITS FALSE NEIGHBOUR: 'it returns false'. Refute it at one input. -/
def peaksOwnsWrong : ChangeSpec := { name := "peaksOwns", fn := fun _ => fun
  | [d] => { results := [.lit (.bool false)], args := [d] }
  | _ => none }
def PeaksOwnsWrongFalsely : Prop := peaksOwnsRow.holds Tryd.pinned (OpenSpec.ofChange peaksOwnsWrong)

/-- 'pantilelaw09.PeaksNumbers': WHATEVER THE INPUT: true; the input reads as it did. -/
def peaksNumbersSpec : ChangeSpec := { name := "peaksNumbers", fn := fun _ => fun
  | [d] => { results := [.lit (.bool true)], args := [d] }
  | _ => none }
def peaksNumbersRow : OpenClaim := { program := "ytoeibcdnhglobaadoor", sum := "b825107a2a2ebe52bfc75113b810e065ea53d6485cac6dcf0e1fb8ea4bad9a55", func := "pantile/pantilelaw09.PeaksNumbers", spec := "peaksNumbers", unfollowed := true, recurses := true, named := ["math/bits.deBruijn32tab", "math/bits.deBruijn64tab"], apart := false, laid := [("math/bits.deBruijn32tab", laid_math_bits_deBruijn32tab), ("math/bits.deBruijn64tab", laid_math_bits_deBruijn64tab)] }
def PeaksNumbersSaid : Prop := peaksNumbersRow.holds Tryd.pinned (OpenSpec.ofChange peaksNumbersSpec)

/-- ITS FALSE NEIGHBOUR: 'it returns false'. Refute it at one input. -/
def peaksNumbersWrong : ChangeSpec := { name := "peaksNumbers", fn := fun _ => fun
  | [d] => { results := [.lit (.bool false)], args := [d] }
  | _ => none }
def PeaksNumbersWrongFalsely : Prop := peaksNumbersRow.holds Tryd.pinned (OpenSpec.ofChange peaksNumbersWrong)

/-- 'pantilelaw09.PeaksGrow': WHATEVER THE INPUT: true; the input reads as it did. -/
def peaksGrowSpec : ChangeSpec := { name := "peaksGrow", fn := fun _ => fun
  | [d] => { results := [.lit (.bool true)], args := [d] }
  | _ => none }
def peaksGrowRow : OpenClaim := { program := "ytoeibcdnhglobaadoor", sum := "b825107a2a2ebe52bfc75113b810e065ea53d6485cac6dcf0e1fb8ea4bad9a55", func := "pantile/pantilelaw09.PeaksGrow", spec := "peaksGrow", unfollowed := true, recurses := true, named := ["math/bits.deBruijn32tab", "math/bits.deBruijn64tab"], apart := false, laid := [("math/bits.deBruijn32tab", laid_math_bits_deBruijn32tab), ("math/bits.deBruijn64tab", laid_math_bits_deBruijn64tab)] }
def PeaksGrowSaid : Prop := peaksGrowRow.holds Tryd.pinned (OpenSpec.ofChange peaksGrowSpec)

/-- ITS FALSE NEIGHBOUR: 'it returns false'. Refute it at one input. -/
def peaksGrowWrong : ChangeSpec := { name := "peaksGrow", fn := fun _ => fun
  | [d] => { results := [.lit (.bool false)], args := [d] }
  | _ => none }
def PeaksGrowWrongFalsely : Prop := peaksGrowRow.holds Tryd.pinned (OpenSpec.ofChange peaksGrowWrong)

/-- 'pantilelaw09.PeaksHashes': WHATEVER THE INPUT: true; the input reads as it did. -/
def peaksHashesSpec : ChangeSpec := { name := "peaksHashes", fn := fun _ => fun
  | [d] => { results := [.lit (.bool true)], args := [d] }
  | _ => none }
def peaksHashesRow : OpenClaim := { program := "ytoeibcdnhglobaadoor", sum := "b825107a2a2ebe52bfc75113b810e065ea53d6485cac6dcf0e1fb8ea4bad9a55", func := "pantile/pantilelaw09.PeaksHashes", spec := "peaksHashes", unfollowed := true, recurses := true, named := ["pantile/digest.begins", "pantile/digest.k", "math/bits.deBruijn32tab", "math/bits.deBruijn64tab"], apart := false, laid := [("math/bits.deBruijn32tab", laid_math_bits_deBruijn32tab), ("math/bits.deBruijn64tab", laid_math_bits_deBruijn64tab), ("pantile/digest.k", laid_pantile_digest_k), ("pantile/digest.begins", laid_pantile_digest_begins)] }
def PeaksHashesSaid : Prop := peaksHashesRow.holds Tryd.pinned (OpenSpec.ofChange peaksHashesSpec)

/-- ITS FALSE NEIGHBOUR: 'it returns false'. Refute it at one input. -/
def peaksHashesWrong : ChangeSpec := { name := "peaksHashes", fn := fun _ => fun
  | [d] => { results := [.lit (.bool false)], args := [d] }
  | _ => none }
def PeaksHashesWrongFalsely : Prop := peaksHashesRow.holds Tryd.pinned (OpenSpec.ofChange peaksHashesWrong)

/-- 'pantilelaw09.PeaksFew': WHATEVER THE INPUT: true; the input reads as it did. -/
def peaksFewSpec : ChangeSpec := { name := "peaksFew", fn := fun _ => fun
  | [d1, d2, d3] => { results := [.lit (.bool true)], args := [d1, d2, d3] }
  | _ => none }
def peaksFewRow : OpenClaim := { program := "ytoeibcdnhglobaadoor", sum := "b825107a2a2ebe52bfc75113b810e065ea53d6485cac6dcf0e1fb8ea4bad9a55", func := "pantile/pantilelaw09.PeaksFew", spec := "peaksFew", unfollowed := true, recurses := true, named := ["pantile/digest.begins", "pantile/digest.k", "math/bits.deBruijn32tab", "math/bits.deBruijn64tab"], apart := false, laid := [("math/bits.deBruijn32tab", laid_math_bits_deBruijn32tab), ("math/bits.deBruijn64tab", laid_math_bits_deBruijn64tab), ("pantile/digest.k", laid_pantile_digest_k), ("pantile/digest.begins", laid_pantile_digest_begins)] }
def PeaksFewSaid : Prop := peaksFewRow.holds Tryd.pinned (OpenSpec.ofChange peaksFewSpec)

/-- ITS FALSE NEIGHBOUR: 'it returns false'. Refute it at one input. -/
def peaksFewWrong : ChangeSpec := { name := "peaksFew", fn := fun _ => fun
  | [d1, d2, d3] => { results := [.lit (.bool false)], args := [d1, d2, d3] }
  | _ => none }
def PeaksFewWrongFalsely : Prop := peaksFewRow.holds Tryd.pinned (OpenSpec.ofChange peaksFewWrong)

/-- 'pantilelaw12.TilesNode': WHATEVER THE INPUT: true; the input reads as it did. -/
def tilesNodeSpec : ChangeSpec := { name := "tilesNode", fn := fun _ => fun
  | [d1, d2, d3] => { results := [.lit (.bool true)], args := [d1, d2, d3] }
  | _ => none }
def tilesNodeRow : OpenClaim := { program := "ytoeibcdnhglobaadoor", sum := "b825107a2a2ebe52bfc75113b810e065ea53d6485cac6dcf0e1fb8ea4bad9a55", func := "pantile/pantilelaw12.TilesNode", spec := "tilesNode", unfollowed := true, recurses := true, named := ["pantile/digest.begins", "pantile/digest.k", "math/bits.deBruijn32tab", "math/bits.deBruijn64tab"], apart := false, laid := [("math/bits.deBruijn32tab", laid_math_bits_deBruijn32tab), ("math/bits.deBruijn64tab", laid_math_bits_deBruijn64tab), ("pantile/digest.k", laid_pantile_digest_k), ("pantile/digest.begins", laid_pantile_digest_begins)] }
def TilesNodeSaid : Prop := tilesNodeRow.holds Tryd.pinned (OpenSpec.ofChange tilesNodeSpec)

/-- ITS FALSE NEIGHBOUR: 'it returns false'. Refute it at one input. -/
def tilesNodeWrong : ChangeSpec := { name := "tilesNode", fn := fun _ => fun
  | [d1, d2, d3] => { results := [.lit (.bool false)], args := [d1, d2, d3] }
  | _ => none }
def TilesNodeWrongFalsely : Prop := tilesNodeRow.holds Tryd.pinned (OpenSpec.ofChange tilesNodeWrong)

/-- 'pantilelaw10.ProofProofs': WHATEVER THE INPUT: true; the input reads as it did. -/
def proofProofsSpec : ChangeSpec := { name := "proofProofs", fn := fun _ => fun
  | [d1, d2, d3] => { results := [.lit (.bool true)], args := [d1, d2, d3] }
  | _ => none }
def proofProofsRow : OpenClaim := { program := "ytoeibcdnhglobaadoor", sum := "b825107a2a2ebe52bfc75113b810e065ea53d6485cac6dcf0e1fb8ea4bad9a55", func := "pantile/pantilelaw10.ProofProofs", spec := "proofProofs", unfollowed := true, recurses := true, named := ["pantile/digest.begins", "pantile/digest.k", "math/bits.deBruijn32tab", "math/bits.deBruijn64tab"], apart := false, laid := [("math/bits.deBruijn32tab", laid_math_bits_deBruijn32tab), ("math/bits.deBruijn64tab", laid_math_bits_deBruijn64tab), ("pantile/digest.k", laid_pantile_digest_k), ("pantile/digest.begins", laid_pantile_digest_begins)] }
def ProofProofsSaid : Prop := proofProofsRow.holds Tryd.pinned (OpenSpec.ofChange proofProofsSpec)

/-- ITS FALSE NEIGHBOUR: 'it returns false'. Refute it at one input. -/
def proofProofsWrong : ChangeSpec := { name := "proofProofs", fn := fun _ => fun
  | [d1, d2, d3] => { results := [.lit (.bool false)], args := [d1, d2, d3] }
  | _ => none }
def ProofProofsWrongFalsely : Prop := proofProofsRow.holds Tryd.pinned (OpenSpec.ofChange proofProofsWrong)

/-- 'pantilelaw10.ProofNodes': WHATEVER THE INPUT: true; the input reads as it did. -/
def proofNodesSpec : ChangeSpec := { name := "proofNodes", fn := fun _ => fun
  | [d1, d2, d3] => { results := [.lit (.bool true)], args := [d1, d2, d3] }
  | _ => none }
def proofNodesRow : OpenClaim := { program := "ytoeibcdnhglobaadoor", sum := "b825107a2a2ebe52bfc75113b810e065ea53d6485cac6dcf0e1fb8ea4bad9a55", func := "pantile/pantilelaw10.ProofNodes", spec := "proofNodes", unfollowed := true, recurses := true, named := ["pantile/digest.begins", "pantile/digest.k", "math/bits.deBruijn32tab", "math/bits.deBruijn64tab"], apart := false, laid := [("math/bits.deBruijn32tab", laid_math_bits_deBruijn32tab), ("math/bits.deBruijn64tab", laid_math_bits_deBruijn64tab), ("pantile/digest.k", laid_pantile_digest_k), ("pantile/digest.begins", laid_pantile_digest_begins)] }
def ProofNodesSaid : Prop := proofNodesRow.holds Tryd.pinned (OpenSpec.ofChange proofNodesSpec)

/-- ITS FALSE NEIGHBOUR: 'it returns false'. Refute it at one input. -/
def proofNodesWrong : ChangeSpec := { name := "proofNodes", fn := fun _ => fun
  | [d1, d2, d3] => { results := [.lit (.bool false)], args := [d1, d2, d3] }
  | _ => none }
def ProofNodesWrongFalsely : Prop := proofNodesRow.holds Tryd.pinned (OpenSpec.ofChange proofNodesWrong)

/-- 'pantilelaw10.ProofChecks': WHATEVER THE INPUT: true; the input reads as it did. -/
def proofChecksSpec : ChangeSpec := { name := "proofChecks", fn := fun _ => fun
  | [d1, d2, d3, d4, d5] => { results := [.lit (.bool true)], args := [d1, d2, d3, d4, d5] }
  | _ => none }
def proofChecksRow : OpenClaim := { program := "ytoeibcdnhglobaadoor", sum := "b825107a2a2ebe52bfc75113b810e065ea53d6485cac6dcf0e1fb8ea4bad9a55", func := "pantile/pantilelaw10.ProofChecks", spec := "proofChecks", unfollowed := true, recurses := true, named := ["pantile/digest.begins", "pantile/digest.k", "math/bits.deBruijn32tab", "math/bits.deBruijn64tab"], apart := false, laid := [("math/bits.deBruijn32tab", laid_math_bits_deBruijn32tab), ("math/bits.deBruijn64tab", laid_math_bits_deBruijn64tab), ("pantile/digest.k", laid_pantile_digest_k), ("pantile/digest.begins", laid_pantile_digest_begins)] }
def ProofChecksSaid : Prop := proofChecksRow.holds Tryd.pinned (OpenSpec.ofChange proofChecksSpec)

/-- ITS FALSE NEIGHBOUR: 'it returns false'. Refute it at one input. -/
def proofChecksWrong : ChangeSpec := { name := "proofChecks", fn := fun _ => fun
  | [d1, d2, d3, d4, d5] => { results := [.lit (.bool false)], args := [d1, d2, d3, d4, d5] }
  | _ => none }
def ProofChecksWrongFalsely : Prop := proofChecksRow.holds Tryd.pinned (OpenSpec.ofChange proofChecksWrong)

/-- 'pantilelaw12.TilesMake': WHATEVER THE INPUT: true; the input reads as it did. -/
def tilesMakeSpec : ChangeSpec := { name := "tilesMake", fn := fun _ => fun
  | [d1, d2, d3] => { results := [.lit (.bool true)], args := [d1, d2, d3] }
  | _ => none }
def tilesMakeRow : OpenClaim := { program := "ytoeibcdnhglobaadoor", sum := "b825107a2a2ebe52bfc75113b810e065ea53d6485cac6dcf0e1fb8ea4bad9a55", func := "pantile/pantilelaw12.TilesMake", spec := "tilesMake", inPlace := ["internal/abi.NoEscape", "internal/bytealg.MakeNoZero"], unfollowed := true, recurses := true, named := ["pantile/digest.begins", "pantile/digest.k", "math/bits.deBruijn32tab", "math/bits.deBruijn64tab"], apart := false, laid := [("math/bits.deBruijn32tab", laid_math_bits_deBruijn32tab), ("math/bits.deBruijn64tab", laid_math_bits_deBruijn64tab), ("pantile/digest.k", laid_pantile_digest_k), ("pantile/digest.begins", laid_pantile_digest_begins)] }
def TilesMakeSaid : Prop := tilesMakeRow.holds Tryd.pinned (OpenSpec.ofChange tilesMakeSpec)

/-- ITS FALSE NEIGHBOUR: 'it returns false'. Refute it at one input. -/
def tilesMakeWrong : ChangeSpec := { name := "tilesMake", fn := fun _ => fun
  | [d1, d2, d3] => { results := [.lit (.bool false)], args := [d1, d2, d3] }
  | _ => none }
def TilesMakeWrongFalsely : Prop := tilesMakeRow.holds Tryd.pinned (OpenSpec.ofChange tilesMakeWrong)

/-- 'pantilelaw10.ProofHolds': WHATEVER THE INPUT: true; the input reads as it did. -/
def proofHoldsSpec : ChangeSpec := { name := "proofHolds", fn := fun _ => fun
  | [d1, d2, d3, d4, d5] => { results := [.lit (.bool true)], args := [d1, d2, d3, d4, d5] }
  | _ => none }
def proofHoldsRow : OpenClaim := { program := "ytoeibcdnhglobaadoor", sum := "b825107a2a2ebe52bfc75113b810e065ea53d6485cac6dcf0e1fb8ea4bad9a55", func := "pantile/pantilelaw10.ProofHolds", spec := "proofHolds", unfollowed := true, recurses := true, named := ["pantile/digest.begins", "pantile/digest.k", "math/bits.deBruijn32tab", "math/bits.deBruijn64tab"], apart := false, laid := [("math/bits.deBruijn32tab", laid_math_bits_deBruijn32tab), ("math/bits.deBruijn64tab", laid_math_bits_deBruijn64tab), ("pantile/digest.k", laid_pantile_digest_k), ("pantile/digest.begins", laid_pantile_digest_begins)] }
def ProofHoldsSaid : Prop := proofHoldsRow.holds Tryd.pinned (OpenSpec.ofChange proofHoldsSpec)

/-- ITS FALSE NEIGHBOUR: 'it returns false'. Refute it at one input. -/
def proofHoldsWrong : ChangeSpec := { name := "proofHolds", fn := fun _ => fun
  | [d1, d2, d3, d4, d5] => { results := [.lit (.bool false)], args := [d1, d2, d3, d4, d5] }
  | _ => none }
def ProofHoldsWrongFalsely : Prop := proofHoldsRow.holds Tryd.pinned (OpenSpec.ofChange proofHoldsWrong)

/-- 'pantilelaw10.ProofPrefix': WHATEVER THE INPUT: true; the input reads as it did. -/
def proofPrefixSpec : ChangeSpec := { name := "proofPrefix", fn := fun _ => fun
  | [d1, d2, d3, d4] => { results := [.lit (.bool true)], args := [d1, d2, d3, d4] }
  | _ => none }
def proofPrefixRow : OpenClaim := { program := "ytoeibcdnhglobaadoor", sum := "b825107a2a2ebe52bfc75113b810e065ea53d6485cac6dcf0e1fb8ea4bad9a55", func := "pantile/pantilelaw10.ProofPrefix", spec := "proofPrefix", unfollowed := true, recurses := true, named := ["pantile/digest.begins", "pantile/digest.k", "math/bits.deBruijn32tab", "math/bits.deBruijn64tab"], apart := false, laid := [("math/bits.deBruijn32tab", laid_math_bits_deBruijn32tab), ("math/bits.deBruijn64tab", laid_math_bits_deBruijn64tab), ("pantile/digest.k", laid_pantile_digest_k), ("pantile/digest.begins", laid_pantile_digest_begins)] }
def ProofPrefixSaid : Prop := proofPrefixRow.holds Tryd.pinned (OpenSpec.ofChange proofPrefixSpec)

/-- ITS FALSE NEIGHBOUR: 'it returns false'. Refute it at one input. -/
def proofPrefixWrong : ChangeSpec := { name := "proofPrefix", fn := fun _ => fun
  | [d1, d2, d3, d4] => { results := [.lit (.bool false)], args := [d1, d2, d3, d4] }
  | _ => none }
def ProofPrefixWrongFalsely : Prop := proofPrefixRow.holds Tryd.pinned (OpenSpec.ofChange proofPrefixWrong)

/-- 'pantilelaw10.ProofLong': WHATEVER THE INPUT: true; the input reads as it did. -/
def proofLongSpec : ChangeSpec := { name := "proofLong", fn := fun _ => fun
  | [d1, d2] => { results := [.lit (.bool true)], args := [d1, d2] }
  | _ => none }
def proofLongRow : OpenClaim := { program := "ytoeibcdnhglobaadoor", sum := "b825107a2a2ebe52bfc75113b810e065ea53d6485cac6dcf0e1fb8ea4bad9a55", func := "pantile/pantilelaw10.ProofLong", spec := "proofLong", unfollowed := true, recurses := true, named := ["pantile/digest.begins", "pantile/digest.k", "math/bits.deBruijn32tab", "math/bits.deBruijn64tab"], apart := false, laid := [("math/bits.deBruijn32tab", laid_math_bits_deBruijn32tab), ("math/bits.deBruijn64tab", laid_math_bits_deBruijn64tab), ("pantile/digest.k", laid_pantile_digest_k), ("pantile/digest.begins", laid_pantile_digest_begins)] }
def ProofLongSaid : Prop := proofLongRow.holds Tryd.pinned (OpenSpec.ofChange proofLongSpec)

/-- ITS FALSE NEIGHBOUR: 'it returns false'. Refute it at one input. -/
def proofLongWrong : ChangeSpec := { name := "proofLong", fn := fun _ => fun
  | [d1, d2] => { results := [.lit (.bool false)], args := [d1, d2] }
  | _ => none }
def ProofLongWrongFalsely : Prop := proofLongRow.holds Tryd.pinned (OpenSpec.ofChange proofLongWrong)

/-- 'pantilelaw10.ProofRound': WHATEVER THE INPUT: true; the input reads as it did. -/
def proofRoundSpec : ChangeSpec := { name := "proofRound", fn := fun _ => fun
  | [d1, d2, d3, d4] => { results := [.lit (.bool true)], args := [d1, d2, d3, d4] }
  | _ => none }
def proofRoundRow : OpenClaim := { program := "ytoeibcdnhglobaadoor", sum := "b825107a2a2ebe52bfc75113b810e065ea53d6485cac6dcf0e1fb8ea4bad9a55", func := "pantile/pantilelaw10.ProofRound", spec := "proofRound", unfollowed := true, recurses := true, named := ["pantile/digest.begins", "pantile/digest.k", "math/bits.deBruijn32tab", "math/bits.deBruijn64tab"], apart := false, laid := [("math/bits.deBruijn32tab", laid_math_bits_deBruijn32tab), ("math/bits.deBruijn64tab", laid_math_bits_deBruijn64tab), ("pantile/digest.k", laid_pantile_digest_k), ("pantile/digest.begins", laid_pantile_digest_begins)] }
def ProofRoundSaid : Prop := proofRoundRow.holds Tryd.pinned (OpenSpec.ofChange proofRoundSpec)

/-- ITS FALSE NEIGHBOUR: 'it returns false'. Refute it at one input. -/
def proofRoundWrong : ChangeSpec := { name := "proofRound", fn := fun _ => fun
  | [d1, d2, d3, d4] => { results := [.lit (.bool false)], args := [d1, d2, d3, d4] }
  | _ => none }
def ProofRoundWrongFalsely : Prop := proofRoundRow.holds Tryd.pinned (OpenSpec.ofChange proofRoundWrong)

/-- 'pantilelaw15.NodesGrow': WHATEVER THE INPUT: true; the input reads as it did. -/
def nodesGrowSpec : ChangeSpec := { name := "nodesGrow", fn := fun _ => fun
  | [d1, d2] => { results := [.lit (.bool true)], args := [d1, d2] }
  | _ => none }
def nodesGrowRow : OpenClaim := { program := "ytoeibcdnhglobaadoor", sum := "b825107a2a2ebe52bfc75113b810e065ea53d6485cac6dcf0e1fb8ea4bad9a55", func := "pantile/pantilelaw15.NodesGrow", spec := "nodesGrow", inPlace := ["internal/abi.NoEscape", "internal/bytealg.MakeNoZero"], unfollowed := true, recurses := true, named := ["internal/strconv.uint64pow10", "math/bits.deBruijn32tab", "math/bits.deBruijn64tab", "pantile/digest.begins", "pantile/digest.k"], apart := false, laid := [("math/bits.deBruijn32tab", laid_math_bits_deBruijn32tab), ("math/bits.deBruijn64tab", laid_math_bits_deBruijn64tab), ("internal/strconv.uint64pow10", laid_internal_strconv_uint64pow10), ("pantile/digest.k", laid_pantile_digest_k), ("pantile/digest.begins", laid_pantile_digest_begins)] }
def NodesGrowSaid : Prop := nodesGrowRow.holds Tryd.pinned (OpenSpec.ofChange nodesGrowSpec)

/-- ITS FALSE NEIGHBOUR: 'it returns false'. Refute it at one input. -/
def nodesGrowWrong : ChangeSpec := { name := "nodesGrow", fn := fun _ => fun
  | [d1, d2] => { results := [.lit (.bool false)], args := [d1, d2] }
  | _ => none }
def NodesGrowWrongFalsely : Prop := nodesGrowRow.holds Tryd.pinned (OpenSpec.ofChange nodesGrowWrong)

/-- 'pantilelaw15.NodesOwns': WHATEVER THE INPUT: true; the input reads as it did. -/
def nodesOwnsSpec : ChangeSpec := { name := "nodesOwns", fn := fun _ => fun
  | [d1, d2] => { results := [.lit (.bool true)], args := [d1, d2] }
  | _ => none }
def nodesOwnsRow : OpenClaim := { program := "ytoeibcdnhglobaadoor", sum := "b825107a2a2ebe52bfc75113b810e065ea53d6485cac6dcf0e1fb8ea4bad9a55", func := "pantile/pantilelaw15.NodesOwns", spec := "nodesOwns", inPlace := ["internal/abi.NoEscape", "internal/bytealg.MakeNoZero"], unfollowed := true, recurses := true, named := ["internal/strconv.uint64pow10", "math/bits.deBruijn32tab", "math/bits.deBruijn64tab", "pantile/digest.begins", "pantile/digest.k"], apart := false, laid := [("math/bits.deBruijn32tab", laid_math_bits_deBruijn32tab), ("math/bits.deBruijn64tab", laid_math_bits_deBruijn64tab), ("internal/strconv.uint64pow10", laid_internal_strconv_uint64pow10), ("pantile/digest.k", laid_pantile_digest_k), ("pantile/digest.begins", laid_pantile_digest_begins)] }
def NodesOwnsSaid : Prop := nodesOwnsRow.holds Tryd.pinned (OpenSpec.ofChange nodesOwnsSpec)

/-- ITS FALSE NEIGHBOUR: 'it returns false'. Refute it at one input. -/
def nodesOwnsWrong : ChangeSpec := { name := "nodesOwns", fn := fun _ => fun
  | [d1, d2] => { results := [.lit (.bool false)], args := [d1, d2] }
  | _ => none }
def NodesOwnsWrongFalsely : Prop := nodesOwnsRow.holds Tryd.pinned (OpenSpec.ofChange nodesOwnsWrong)

/-- 'pantilelaw15.NodesParts': WHATEVER THE INPUT: true; the input reads as it did. -/
def nodesPartsSpec : ChangeSpec := { name := "nodesParts", fn := fun _ => fun
  | [d1, d2] => { results := [.lit (.bool true)], args := [d1, d2] }
  | _ => none }
def nodesPartsRow : OpenClaim := { program := "ytoeibcdnhglobaadoor", sum := "b825107a2a2ebe52bfc75113b810e065ea53d6485cac6dcf0e1fb8ea4bad9a55", func := "pantile/pantilelaw15.NodesParts", spec := "nodesParts", inPlace := ["internal/abi.NoEscape", "internal/bytealg.MakeNoZero"], unfollowed := true, recurses := true, named := ["internal/strconv.uint64pow10", "math/bits.deBruijn32tab", "math/bits.deBruijn64tab", "pantile/digest.begins", "pantile/digest.k"], apart := false, laid := [("math/bits.deBruijn32tab", laid_math_bits_deBruijn32tab), ("math/bits.deBruijn64tab", laid_math_bits_deBruijn64tab), ("internal/strconv.uint64pow10", laid_internal_strconv_uint64pow10), ("pantile/digest.k", laid_pantile_digest_k), ("pantile/digest.begins", laid_pantile_digest_begins)] }
def NodesPartsSaid : Prop := nodesPartsRow.holds Tryd.pinned (OpenSpec.ofChange nodesPartsSpec)

/-- ITS FALSE NEIGHBOUR: 'it returns false'. Refute it at one input. -/
def nodesPartsWrong : ChangeSpec := { name := "nodesParts", fn := fun _ => fun
  | [d1, d2] => { results := [.lit (.bool false)], args := [d1, d2] }
  | _ => none }
def NodesPartsWrongFalsely : Prop := nodesPartsRow.holds Tryd.pinned (OpenSpec.ofChange nodesPartsWrong)

/-- 'pantilelaw15.NodesKeys': WHATEVER THE INPUT: true; the input reads as it did. -/
def nodesKeysSpec : ChangeSpec := { name := "nodesKeys", fn := fun _ => fun
  | [d1, d2, d3] => { results := [.lit (.bool true)], args := [d1, d2, d3] }
  | _ => none }
def nodesKeysRow : OpenClaim := { program := "ytoeibcdnhglobaadoor", sum := "b825107a2a2ebe52bfc75113b810e065ea53d6485cac6dcf0e1fb8ea4bad9a55", func := "pantile/pantilelaw15.NodesKeys", spec := "nodesKeys", inPlace := ["internal/abi.NoEscape", "internal/bytealg.MakeNoZero"], unfollowed := true, recurses := true, named := ["internal/strconv.uint64pow10", "math/bits.deBruijn32tab", "math/bits.deBruijn64tab", "pantile/digest.begins", "pantile/digest.k"], apart := false, laid := [("math/bits.deBruijn32tab", laid_math_bits_deBruijn32tab), ("math/bits.deBruijn64tab", laid_math_bits_deBruijn64tab), ("internal/strconv.uint64pow10", laid_internal_strconv_uint64pow10), ("pantile/digest.k", laid_pantile_digest_k), ("pantile/digest.begins", laid_pantile_digest_begins)] }
def NodesKeysSaid : Prop := nodesKeysRow.holds Tryd.pinned (OpenSpec.ofChange nodesKeysSpec)

/-- ITS FALSE NEIGHBOUR: 'it returns false'. Refute it at one input. -/
def nodesKeysWrong : ChangeSpec := { name := "nodesKeys", fn := fun _ => fun
  | [d1, d2, d3] => { results := [.lit (.bool false)], args := [d1, d2, d3] }
  | _ => none }
def NodesKeysWrongFalsely : Prop := nodesKeysRow.holds Tryd.pinned (OpenSpec.ofChange nodesKeysWrong)

/- THE SECOND FORM. 'bulk': how many values and letters a reading holds, each counted each time it is reached (what is shared counts as often as it is met; a slice's spare places count too). A statement '..UptoSaid' is the law's where the arguments, and the package variables that the reading takes, are together of bulk at most 1048576: NARROWER than '..Said'. Prove '..Said' where nothing that the law and all that it calls make is longer than what came in: it says more and counts as full. Else prove '..UptoSaid'. A law counts once. -/
mutual
def uptoBulk {H : Type} : DataW H → Nat
  | .lit (.string bytes) => bytes.length + 1
  | .lit _ => 1
  | .nil => 1
  | .ptr d => uptoBulk d + 1
  | .slice elems spare => uptoBulkAll elems + uptoBulkAll spare + 1
  | .agg parts => uptoBulkAll parts + 1
  | .iface _ d => uptoBulk d + 1
  | .map entries => uptoBulkEntries entries + 1
  | .held _ => 1
def uptoBulkAll {H : Type} : List (DataW H) → Nat
  | [] => 0
  | d :: r => uptoBulk d + uptoBulkAll r
def uptoBulkEntries {H : Type} : List (Lit × DataW H) → Nat
  | [] => 0
  | x :: r => uptoBulkEntry x + uptoBulkEntries r
def uptoBulkEntry {H : Type} : Lit × DataW H → Nat
  | (.string bytes, d) => bytes.length + uptoBulk d + 1
  | (_, d) => uptoBulk d + 1
 end
def uptoSmall : (H : Type) → List (DataW H) → Bool := fun _ ds => decide (uptoBulkAll ds ≤ 1048576)
def OpenSpec.upto (s : _root_.Go.ChangeSpec) : _root_.Go.OpenSpec := { _root_.Go.OpenSpec.ofChange s with cond := some uptoSmall }

/-- 'pantilelaw09.PeaksOwns', WHERE WHAT IT READS IS OF BULK AT MOST 1048576: true; the input reads as it did. -/
def peaksOwnsUptoRow : OpenClaim := { program := "ytoeibcdnhglobaadoor", sum := "b825107a2a2ebe52bfc75113b810e065ea53d6485cac6dcf0e1fb8ea4bad9a55", func := "pantile/pantilelaw09.PeaksOwns", spec := "peaksOwns", unfollowed := true, recurses := true, named := ["math/bits.deBruijn32tab", "math/bits.deBruijn64tab"], apart := false, laid := [("math/bits.deBruijn32tab", laid_math_bits_deBruijn32tab), ("math/bits.deBruijn64tab", laid_math_bits_deBruijn64tab)], narrowed := true }
def PeaksOwnsUptoSaid : Prop := peaksOwnsUptoRow.holds Tryd.pinned (OpenSpec.upto peaksOwnsSpec)

/-- 'pantilelaw09.PeaksNumbers', WHERE WHAT IT READS IS OF BULK AT MOST 1048576: true; the input reads as it did. -/
def peaksNumbersUptoRow : OpenClaim := { program := "ytoeibcdnhglobaadoor", sum := "b825107a2a2ebe52bfc75113b810e065ea53d6485cac6dcf0e1fb8ea4bad9a55", func := "pantile/pantilelaw09.PeaksNumbers", spec := "peaksNumbers", unfollowed := true, recurses := true, named := ["math/bits.deBruijn32tab", "math/bits.deBruijn64tab"], apart := false, laid := [("math/bits.deBruijn32tab", laid_math_bits_deBruijn32tab), ("math/bits.deBruijn64tab", laid_math_bits_deBruijn64tab)], narrowed := true }
def PeaksNumbersUptoSaid : Prop := peaksNumbersUptoRow.holds Tryd.pinned (OpenSpec.upto peaksNumbersSpec)

/-- 'pantilelaw09.PeaksGrow', WHERE WHAT IT READS IS OF BULK AT MOST 1048576: true; the input reads as it did. -/
def peaksGrowUptoRow : OpenClaim := { program := "ytoeibcdnhglobaadoor", sum := "b825107a2a2ebe52bfc75113b810e065ea53d6485cac6dcf0e1fb8ea4bad9a55", func := "pantile/pantilelaw09.PeaksGrow", spec := "peaksGrow", unfollowed := true, recurses := true, named := ["math/bits.deBruijn32tab", "math/bits.deBruijn64tab"], apart := false, laid := [("math/bits.deBruijn32tab", laid_math_bits_deBruijn32tab), ("math/bits.deBruijn64tab", laid_math_bits_deBruijn64tab)], narrowed := true }
def PeaksGrowUptoSaid : Prop := peaksGrowUptoRow.holds Tryd.pinned (OpenSpec.upto peaksGrowSpec)

/-- 'pantilelaw09.PeaksHashes', WHERE WHAT IT READS IS OF BULK AT MOST 1048576: true; the input reads as it did. -/
def peaksHashesUptoRow : OpenClaim := { program := "ytoeibcdnhglobaadoor", sum := "b825107a2a2ebe52bfc75113b810e065ea53d6485cac6dcf0e1fb8ea4bad9a55", func := "pantile/pantilelaw09.PeaksHashes", spec := "peaksHashes", unfollowed := true, recurses := true, named := ["pantile/digest.begins", "pantile/digest.k", "math/bits.deBruijn32tab", "math/bits.deBruijn64tab"], apart := false, laid := [("math/bits.deBruijn32tab", laid_math_bits_deBruijn32tab), ("math/bits.deBruijn64tab", laid_math_bits_deBruijn64tab), ("pantile/digest.k", laid_pantile_digest_k), ("pantile/digest.begins", laid_pantile_digest_begins)], narrowed := true }
def PeaksHashesUptoSaid : Prop := peaksHashesUptoRow.holds Tryd.pinned (OpenSpec.upto peaksHashesSpec)

/-- 'pantilelaw09.PeaksFew', WHERE WHAT IT READS IS OF BULK AT MOST 1048576: true; the input reads as it did. -/
def peaksFewUptoRow : OpenClaim := { program := "ytoeibcdnhglobaadoor", sum := "b825107a2a2ebe52bfc75113b810e065ea53d6485cac6dcf0e1fb8ea4bad9a55", func := "pantile/pantilelaw09.PeaksFew", spec := "peaksFew", unfollowed := true, recurses := true, named := ["pantile/digest.begins", "pantile/digest.k", "math/bits.deBruijn32tab", "math/bits.deBruijn64tab"], apart := false, laid := [("math/bits.deBruijn32tab", laid_math_bits_deBruijn32tab), ("math/bits.deBruijn64tab", laid_math_bits_deBruijn64tab), ("pantile/digest.k", laid_pantile_digest_k), ("pantile/digest.begins", laid_pantile_digest_begins)], narrowed := true }
def PeaksFewUptoSaid : Prop := peaksFewUptoRow.holds Tryd.pinned (OpenSpec.upto peaksFewSpec)

/-- 'pantilelaw12.TilesNode', WHERE WHAT IT READS IS OF BULK AT MOST 1048576: true; the input reads as it did. -/
def tilesNodeUptoRow : OpenClaim := { program := "ytoeibcdnhglobaadoor", sum := "b825107a2a2ebe52bfc75113b810e065ea53d6485cac6dcf0e1fb8ea4bad9a55", func := "pantile/pantilelaw12.TilesNode", spec := "tilesNode", unfollowed := true, recurses := true, named := ["pantile/digest.begins", "pantile/digest.k", "math/bits.deBruijn32tab", "math/bits.deBruijn64tab"], apart := false, laid := [("math/bits.deBruijn32tab", laid_math_bits_deBruijn32tab), ("math/bits.deBruijn64tab", laid_math_bits_deBruijn64tab), ("pantile/digest.k", laid_pantile_digest_k), ("pantile/digest.begins", laid_pantile_digest_begins)], narrowed := true }
def TilesNodeUptoSaid : Prop := tilesNodeUptoRow.holds Tryd.pinned (OpenSpec.upto tilesNodeSpec)

/-- 'pantilelaw10.ProofProofs', WHERE WHAT IT READS IS OF BULK AT MOST 1048576: true; the input reads as it did. -/
def proofProofsUptoRow : OpenClaim := { program := "ytoeibcdnhglobaadoor", sum := "b825107a2a2ebe52bfc75113b810e065ea53d6485cac6dcf0e1fb8ea4bad9a55", func := "pantile/pantilelaw10.ProofProofs", spec := "proofProofs", unfollowed := true, recurses := true, named := ["pantile/digest.begins", "pantile/digest.k", "math/bits.deBruijn32tab", "math/bits.deBruijn64tab"], apart := false, laid := [("math/bits.deBruijn32tab", laid_math_bits_deBruijn32tab), ("math/bits.deBruijn64tab", laid_math_bits_deBruijn64tab), ("pantile/digest.k", laid_pantile_digest_k), ("pantile/digest.begins", laid_pantile_digest_begins)], narrowed := true }
def ProofProofsUptoSaid : Prop := proofProofsUptoRow.holds Tryd.pinned (OpenSpec.upto proofProofsSpec)

/-- 'pantilelaw10.ProofNodes', WHERE WHAT IT READS IS OF BULK AT MOST 1048576: true; the input reads as it did. -/
def proofNodesUptoRow : OpenClaim := { program := "ytoeibcdnhglobaadoor", sum := "b825107a2a2ebe52bfc75113b810e065ea53d6485cac6dcf0e1fb8ea4bad9a55", func := "pantile/pantilelaw10.ProofNodes", spec := "proofNodes", unfollowed := true, recurses := true, named := ["pantile/digest.begins", "pantile/digest.k", "math/bits.deBruijn32tab", "math/bits.deBruijn64tab"], apart := false, laid := [("math/bits.deBruijn32tab", laid_math_bits_deBruijn32tab), ("math/bits.deBruijn64tab", laid_math_bits_deBruijn64tab), ("pantile/digest.k", laid_pantile_digest_k), ("pantile/digest.begins", laid_pantile_digest_begins)], narrowed := true }
def ProofNodesUptoSaid : Prop := proofNodesUptoRow.holds Tryd.pinned (OpenSpec.upto proofNodesSpec)

/-- 'pantilelaw10.ProofChecks', WHERE WHAT IT READS IS OF BULK AT MOST 1048576: true; the input reads as it did. -/
def proofChecksUptoRow : OpenClaim := { program := "ytoeibcdnhglobaadoor", sum := "b825107a2a2ebe52bfc75113b810e065ea53d6485cac6dcf0e1fb8ea4bad9a55", func := "pantile/pantilelaw10.ProofChecks", spec := "proofChecks", unfollowed := true, recurses := true, named := ["pantile/digest.begins", "pantile/digest.k", "math/bits.deBruijn32tab", "math/bits.deBruijn64tab"], apart := false, laid := [("math/bits.deBruijn32tab", laid_math_bits_deBruijn32tab), ("math/bits.deBruijn64tab", laid_math_bits_deBruijn64tab), ("pantile/digest.k", laid_pantile_digest_k), ("pantile/digest.begins", laid_pantile_digest_begins)], narrowed := true }
def ProofChecksUptoSaid : Prop := proofChecksUptoRow.holds Tryd.pinned (OpenSpec.upto proofChecksSpec)

/-- 'pantilelaw12.TilesMake', WHERE WHAT IT READS IS OF BULK AT MOST 1048576: true; the input reads as it did. -/
def tilesMakeUptoRow : OpenClaim := { program := "ytoeibcdnhglobaadoor", sum := "b825107a2a2ebe52bfc75113b810e065ea53d6485cac6dcf0e1fb8ea4bad9a55", func := "pantile/pantilelaw12.TilesMake", spec := "tilesMake", inPlace := ["internal/abi.NoEscape", "internal/bytealg.MakeNoZero"], unfollowed := true, recurses := true, named := ["pantile/digest.begins", "pantile/digest.k", "math/bits.deBruijn32tab", "math/bits.deBruijn64tab"], apart := false, laid := [("math/bits.deBruijn32tab", laid_math_bits_deBruijn32tab), ("math/bits.deBruijn64tab", laid_math_bits_deBruijn64tab), ("pantile/digest.k", laid_pantile_digest_k), ("pantile/digest.begins", laid_pantile_digest_begins)], narrowed := true }
def TilesMakeUptoSaid : Prop := tilesMakeUptoRow.holds Tryd.pinned (OpenSpec.upto tilesMakeSpec)

/-- 'pantilelaw10.ProofHolds', WHERE WHAT IT READS IS OF BULK AT MOST 1048576: true; the input reads as it did. -/
def proofHoldsUptoRow : OpenClaim := { program := "ytoeibcdnhglobaadoor", sum := "b825107a2a2ebe52bfc75113b810e065ea53d6485cac6dcf0e1fb8ea4bad9a55", func := "pantile/pantilelaw10.ProofHolds", spec := "proofHolds", unfollowed := true, recurses := true, named := ["pantile/digest.begins", "pantile/digest.k", "math/bits.deBruijn32tab", "math/bits.deBruijn64tab"], apart := false, laid := [("math/bits.deBruijn32tab", laid_math_bits_deBruijn32tab), ("math/bits.deBruijn64tab", laid_math_bits_deBruijn64tab), ("pantile/digest.k", laid_pantile_digest_k), ("pantile/digest.begins", laid_pantile_digest_begins)], narrowed := true }
def ProofHoldsUptoSaid : Prop := proofHoldsUptoRow.holds Tryd.pinned (OpenSpec.upto proofHoldsSpec)

/-- 'pantilelaw10.ProofPrefix', WHERE WHAT IT READS IS OF BULK AT MOST 1048576: true; the input reads as it did. -/
def proofPrefixUptoRow : OpenClaim := { program := "ytoeibcdnhglobaadoor", sum := "b825107a2a2ebe52bfc75113b810e065ea53d6485cac6dcf0e1fb8ea4bad9a55", func := "pantile/pantilelaw10.ProofPrefix", spec := "proofPrefix", unfollowed := true, recurses := true, named := ["pantile/digest.begins", "pantile/digest.k", "math/bits.deBruijn32tab", "math/bits.deBruijn64tab"], apart := false, laid := [("math/bits.deBruijn32tab", laid_math_bits_deBruijn32tab), ("math/bits.deBruijn64tab", laid_math_bits_deBruijn64tab), ("pantile/digest.k", laid_pantile_digest_k), ("pantile/digest.begins", laid_pantile_digest_begins)], narrowed := true }
def ProofPrefixUptoSaid : Prop := proofPrefixUptoRow.holds Tryd.pinned (OpenSpec.upto proofPrefixSpec)

/-- 'pantilelaw10.ProofLong', WHERE WHAT IT READS IS OF BULK AT MOST 1048576: true; the input reads as it did. -/
def proofLongUptoRow : OpenClaim := { program := "ytoeibcdnhglobaadoor", sum := "b825107a2a2ebe52bfc75113b810e065ea53d6485cac6dcf0e1fb8ea4bad9a55", func := "pantile/pantilelaw10.ProofLong", spec := "proofLong", unfollowed := true, recurses := true, named := ["pantile/digest.begins", "pantile/digest.k", "math/bits.deBruijn32tab", "math/bits.deBruijn64tab"], apart := false, laid := [("math/bits.deBruijn32tab", laid_math_bits_deBruijn32tab), ("math/bits.deBruijn64tab", laid_math_bits_deBruijn64tab), ("pantile/digest.k", laid_pantile_digest_k), ("pantile/digest.begins", laid_pantile_digest_begins)], narrowed := true }
def ProofLongUptoSaid : Prop := proofLongUptoRow.holds Tryd.pinned (OpenSpec.upto proofLongSpec)

/-- 'pantilelaw10.ProofRound', WHERE WHAT IT READS IS OF BULK AT MOST 1048576: true; the input reads as it did. -/
def proofRoundUptoRow : OpenClaim := { program := "ytoeibcdnhglobaadoor", sum := "b825107a2a2ebe52bfc75113b810e065ea53d6485cac6dcf0e1fb8ea4bad9a55", func := "pantile/pantilelaw10.ProofRound", spec := "proofRound", unfollowed := true, recurses := true, named := ["pantile/digest.begins", "pantile/digest.k", "math/bits.deBruijn32tab", "math/bits.deBruijn64tab"], apart := false, laid := [("math/bits.deBruijn32tab", laid_math_bits_deBruijn32tab), ("math/bits.deBruijn64tab", laid_math_bits_deBruijn64tab), ("pantile/digest.k", laid_pantile_digest_k), ("pantile/digest.begins", laid_pantile_digest_begins)], narrowed := true }
def ProofRoundUptoSaid : Prop := proofRoundUptoRow.holds Tryd.pinned (OpenSpec.upto proofRoundSpec)

/-- 'pantilelaw15.NodesGrow', WHERE WHAT IT READS IS OF BULK AT MOST 1048576: true; the input reads as it did. -/
def nodesGrowUptoRow : OpenClaim := { program := "ytoeibcdnhglobaadoor", sum := "b825107a2a2ebe52bfc75113b810e065ea53d6485cac6dcf0e1fb8ea4bad9a55", func := "pantile/pantilelaw15.NodesGrow", spec := "nodesGrow", inPlace := ["internal/abi.NoEscape", "internal/bytealg.MakeNoZero"], unfollowed := true, recurses := true, named := ["internal/strconv.uint64pow10", "math/bits.deBruijn32tab", "math/bits.deBruijn64tab", "pantile/digest.begins", "pantile/digest.k"], apart := false, laid := [("math/bits.deBruijn32tab", laid_math_bits_deBruijn32tab), ("math/bits.deBruijn64tab", laid_math_bits_deBruijn64tab), ("internal/strconv.uint64pow10", laid_internal_strconv_uint64pow10), ("pantile/digest.k", laid_pantile_digest_k), ("pantile/digest.begins", laid_pantile_digest_begins)], narrowed := true }
def NodesGrowUptoSaid : Prop := nodesGrowUptoRow.holds Tryd.pinned (OpenSpec.upto nodesGrowSpec)

/-- 'pantilelaw15.NodesOwns', WHERE WHAT IT READS IS OF BULK AT MOST 1048576: true; the input reads as it did. -/
def nodesOwnsUptoRow : OpenClaim := { program := "ytoeibcdnhglobaadoor", sum := "b825107a2a2ebe52bfc75113b810e065ea53d6485cac6dcf0e1fb8ea4bad9a55", func := "pantile/pantilelaw15.NodesOwns", spec := "nodesOwns", inPlace := ["internal/abi.NoEscape", "internal/bytealg.MakeNoZero"], unfollowed := true, recurses := true, named := ["internal/strconv.uint64pow10", "math/bits.deBruijn32tab", "math/bits.deBruijn64tab", "pantile/digest.begins", "pantile/digest.k"], apart := false, laid := [("math/bits.deBruijn32tab", laid_math_bits_deBruijn32tab), ("math/bits.deBruijn64tab", laid_math_bits_deBruijn64tab), ("internal/strconv.uint64pow10", laid_internal_strconv_uint64pow10), ("pantile/digest.k", laid_pantile_digest_k), ("pantile/digest.begins", laid_pantile_digest_begins)], narrowed := true }
def NodesOwnsUptoSaid : Prop := nodesOwnsUptoRow.holds Tryd.pinned (OpenSpec.upto nodesOwnsSpec)

/-- 'pantilelaw15.NodesParts', WHERE WHAT IT READS IS OF BULK AT MOST 1048576: true; the input reads as it did. -/
def nodesPartsUptoRow : OpenClaim := { program := "ytoeibcdnhglobaadoor", sum := "b825107a2a2ebe52bfc75113b810e065ea53d6485cac6dcf0e1fb8ea4bad9a55", func := "pantile/pantilelaw15.NodesParts", spec := "nodesParts", inPlace := ["internal/abi.NoEscape", "internal/bytealg.MakeNoZero"], unfollowed := true, recurses := true, named := ["internal/strconv.uint64pow10", "math/bits.deBruijn32tab", "math/bits.deBruijn64tab", "pantile/digest.begins", "pantile/digest.k"], apart := false, laid := [("math/bits.deBruijn32tab", laid_math_bits_deBruijn32tab), ("math/bits.deBruijn64tab", laid_math_bits_deBruijn64tab), ("internal/strconv.uint64pow10", laid_internal_strconv_uint64pow10), ("pantile/digest.k", laid_pantile_digest_k), ("pantile/digest.begins", laid_pantile_digest_begins)], narrowed := true }
def NodesPartsUptoSaid : Prop := nodesPartsUptoRow.holds Tryd.pinned (OpenSpec.upto nodesPartsSpec)

/-- 'pantilelaw15.NodesKeys', WHERE WHAT IT READS IS OF BULK AT MOST 1048576: true; the input reads as it did. -/
def nodesKeysUptoRow : OpenClaim := { program := "ytoeibcdnhglobaadoor", sum := "b825107a2a2ebe52bfc75113b810e065ea53d6485cac6dcf0e1fb8ea4bad9a55", func := "pantile/pantilelaw15.NodesKeys", spec := "nodesKeys", inPlace := ["internal/abi.NoEscape", "internal/bytealg.MakeNoZero"], unfollowed := true, recurses := true, named := ["internal/strconv.uint64pow10", "math/bits.deBruijn32tab", "math/bits.deBruijn64tab", "pantile/digest.begins", "pantile/digest.k"], apart := false, laid := [("math/bits.deBruijn32tab", laid_math_bits_deBruijn32tab), ("math/bits.deBruijn64tab", laid_math_bits_deBruijn64tab), ("internal/strconv.uint64pow10", laid_internal_strconv_uint64pow10), ("pantile/digest.k", laid_pantile_digest_k), ("pantile/digest.begins", laid_pantile_digest_begins)], narrowed := true }
def NodesKeysUptoSaid : Prop := nodesKeysUptoRow.holds Tryd.pinned (OpenSpec.upto nodesKeysSpec)

end Rows
end Go.Proofs.YtoeibcdnhglobaaDoor
