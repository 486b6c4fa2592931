/-
  No cell of these rows narrows 'for every input' (looked for: loops, veiled, ifaces, maps, wideKeys, modest, calm, conditions, laid).
  DERIVED. THE GIVEN ROWS OF THIS SEAT. 16 by the template 'for every input the law returns true; each argument reads behind the call as it read before'; 0 by the template 'total and deterministic' (their statements: YtkloaeaepjoijaaTotals.lean).
  GIVEN WITH THE SEED: the statements are not yours to turn. If you find one false, say at which input.
  Laid BY PROGRAM, IN A SANDBOX (cutbox-rows.mjs): the forced cells as the released guide's own fill.sh prints them over the translation 69580cc5147bbc0b… (all of the seat's roots in one cut). By AI agents, Wed Nov 11 2026. No macro, syntax, notation, axiom, sorry.
-/
import Derived.Test.YtkloaeaepjoijaaChecked
import GoSem.Claim
import GoSem.ClaimJoined
import GoSem.ClaimMapViews
import Derived.JoinedTies
import Derived.KernelRfl
namespace Go.Proofs.Ytkloaeaepjoijaa
/- THE CELL 'sum', in the pinned program and in every row, IS THE sha256 OF THE DUMP (.gsa) THAT YtkloaeaepjoijaaProg.lean LOADS. Nothing in Lean hashes anything: it is a label: what it is worth is what the hold of that sum in a sandbox is worth. -/
noncomputable def Try.pinned : Pinned := { name := "ytkloaeaepjoijaa", sum := "69580cc5147bbc0b20e7485ae9fa34c5d18d82da95cb58f34eb3836ac4d57ef9", checked := Try.checked }
namespace Rows
def none {H : Type} : Left H := { results := [], args := [] }

/-- 'glisterlaw07.AngleProves': WHATEVER THE INPUT: true; the input reads as it did. -/
def angleProvesSpec : ChangeSpec := { name := "angleProves", fn := fun _ => fun
  | [d1, d2, d3, d4] => { results := [.lit (.bool true)], args := [d1, d2, d3, d4] }
  | _ => none }
def angleProvesRow : OpenClaim := { program := "ytkloaeaepjoijaa", sum := "69580cc5147bbc0b20e7485ae9fa34c5d18d82da95cb58f34eb3836ac4d57ef9", func := "glister/glisterlaw07.AngleProves", spec := "angleProves", unfollowed := true, recurses := true, plainKeys := false, apart := false }
def AngleProvesSaid : Prop := angleProvesRow.holds Try.pinned (OpenSpec.ofChange angleProvesSpec)

/-- ITS FALSE NEIGHBOUR: 'it returns false'. Refute it at one input. -/
def angleProvesWrong : ChangeSpec := { name := "angleProves", fn := fun _ => fun
  | [d1, d2, d3, d4] => { results := [.lit (.bool false)], args := [d1, d2, d3, d4] }
  | _ => none }
def AngleProvesWrongFalsely : Prop := angleProvesRow.holds Try.pinned (OpenSpec.ofChange angleProvesWrong)

/-- 'glisterlaw07.AngleLeasts': WHATEVER THE INPUT: true; the input reads as it did. -/
def angleLeastsSpec : ChangeSpec := { name := "angleLeasts", fn := fun _ => fun
  | [d] => { results := [.lit (.bool true)], args := [d] }
  | _ => none }
def angleLeastsRow : OpenClaim := { program := "ytkloaeaepjoijaa", sum := "69580cc5147bbc0b20e7485ae9fa34c5d18d82da95cb58f34eb3836ac4d57ef9", func := "glister/glisterlaw07.AngleLeasts", spec := "angleLeasts", unfollowed := true, recurses := true, plainKeys := false, apart := false }
def AngleLeastsSaid : Prop := angleLeastsRow.holds Try.pinned (OpenSpec.ofChange angleLeastsSpec)

/-- ITS FALSE NEIGHBOUR: 'it returns false'. Refute it at one input. -/
def angleLeastsWrong : ChangeSpec := { name := "angleLeasts", fn := fun _ => fun
  | [d] => { results := [.lit (.bool false)], args := [d] }
  | _ => none }
def AngleLeastsWrongFalsely : Prop := angleLeastsRow.holds Try.pinned (OpenSpec.ofChange angleLeastsWrong)

/-- 'glisterlaw07.AngleBounds': WHATEVER THE INPUT: true; the input reads as it did. -/
def angleBoundsSpec : ChangeSpec := { name := "angleBounds", fn := fun _ => fun
  | [d1, d2] => { results := [.lit (.bool true)], args := [d1, d2] }
  | _ => none }
def angleBoundsRow : OpenClaim := { program := "ytkloaeaepjoijaa", sum := "69580cc5147bbc0b20e7485ae9fa34c5d18d82da95cb58f34eb3836ac4d57ef9", func := "glister/glisterlaw07.AngleBounds", spec := "angleBounds", unfollowed := true, recurses := true, plainKeys := false, apart := false }
def AngleBoundsSaid : Prop := angleBoundsRow.holds Try.pinned (OpenSpec.ofChange angleBoundsSpec)

/-- ITS FALSE NEIGHBOUR: 'it returns false'. Refute it at one input. -/
def angleBoundsWrong : ChangeSpec := { name := "angleBounds", fn := fun _ => fun
  | [d1, d2] => { results := [.lit (.bool false)], args := [d1, d2] }
  | _ => none }
def AngleBoundsWrongFalsely : Prop := angleBoundsRow.holds Try.pinned (OpenSpec.ofChange angleBoundsWrong)

/-- 'glisterlaw07.AngleControls': WHATEVER THE INPUT: true; the input reads as it did. -/
def angleControlsSpec : ChangeSpec := { name := "angleControls", fn := fun _ => fun
  | [d1, d2] => { results := [.lit (.bool true)], args := [d1, d2] }
  | _ => none }
def angleControlsRow : OpenClaim := { program := "ytkloaeaepjoijaa", sum := "69580cc5147bbc0b20e7485ae9fa34c5d18d82da95cb58f34eb3836ac4d57ef9", func := "glister/glisterlaw07.AngleControls", spec := "angleControls", unfollowed := true, recurses := true, plainKeys := false, apart := false }
def AngleControlsSaid : Prop := angleControlsRow.holds Try.pinned (OpenSpec.ofChange angleControlsSpec)

/-- ITS FALSE NEIGHBOUR: 'it returns false'. Refute it at one input. -/
def angleControlsWrong : ChangeSpec := { name := "angleControls", fn := fun _ => fun
  | [d1, d2] => { results := [.lit (.bool false)], args := [d1, d2] }
  | _ => none }
def AngleControlsWrongFalsely : Prop := angleControlsRow.holds Try.pinned (OpenSpec.ofChange angleControlsWrong)

/-- 'glisterlaw07.AngleLeaves': WHATEVER THE INPUT: true; the input reads as it did. -/
def angleLeavesSpec : ChangeSpec := { name := "angleLeaves", fn := fun _ => fun
  | [d1, d2] => { results := [.lit (.bool true)], args := [d1, d2] }
  | _ => none }
def angleLeavesRow : OpenClaim := { program := "ytkloaeaepjoijaa", sum := "69580cc5147bbc0b20e7485ae9fa34c5d18d82da95cb58f34eb3836ac4d57ef9", func := "glister/glisterlaw07.AngleLeaves", spec := "angleLeaves", unfollowed := true, recurses := true, plainKeys := false, apart := false }
def AngleLeavesSaid : Prop := angleLeavesRow.holds Try.pinned (OpenSpec.ofChange angleLeavesSpec)

/-- ITS FALSE NEIGHBOUR: 'it returns false'. Refute it at one input. -/
def angleLeavesWrong : ChangeSpec := { name := "angleLeaves", fn := fun _ => fun
  | [d1, d2] => { results := [.lit (.bool false)], args := [d1, d2] }
  | _ => none }
def AngleLeavesWrongFalsely : Prop := angleLeavesRow.holds Try.pinned (OpenSpec.ofChange angleLeavesWrong)

/-- 'glisterlaw07.AngleTruth': WHATEVER THE INPUT: true; the input reads as it did. -/
def angleTruthSpec : ChangeSpec := { name := "angleTruth", fn := fun _ => fun
  | [d1, d2] => { results := [.lit (.bool true)], args := [d1, d2] }
  | _ => none }
def angleTruthRow : OpenClaim := { program := "ytkloaeaepjoijaa", sum := "69580cc5147bbc0b20e7485ae9fa34c5d18d82da95cb58f34eb3836ac4d57ef9", func := "glister/glisterlaw07.AngleTruth", spec := "angleTruth", unfollowed := true, recurses := true, plainKeys := false, apart := false }
def AngleTruthSaid : Prop := angleTruthRow.holds Try.pinned (OpenSpec.ofChange angleTruthSpec)

/-- ITS FALSE NEIGHBOUR: 'it returns false'. Refute it at one input. -/
def angleTruthWrong : ChangeSpec := { name := "angleTruth", fn := fun _ => fun
  | [d1, d2] => { results := [.lit (.bool false)], args := [d1, d2] }
  | _ => none }
def AngleTruthWrongFalsely : Prop := angleTruthRow.holds Try.pinned (OpenSpec.ofChange angleTruthWrong)

/-- 'glisterlaw07.AngleEnds': WHATEVER THE INPUT: true; the input reads as it did. -/
def angleEndsSpec : ChangeSpec := { name := "angleEnds", fn := fun _ => fun
  | [d1, d2, d3] => { results := [.lit (.bool true)], args := [d1, d2, d3] }
  | _ => none }
def angleEndsRow : OpenClaim := { program := "ytkloaeaepjoijaa", sum := "69580cc5147bbc0b20e7485ae9fa34c5d18d82da95cb58f34eb3836ac4d57ef9", func := "glister/glisterlaw07.AngleEnds", spec := "angleEnds", unfollowed := true, recurses := true, plainKeys := false, apart := false }
def AngleEndsSaid : Prop := angleEndsRow.holds Try.pinned (OpenSpec.ofChange angleEndsSpec)

/-- ITS FALSE NEIGHBOUR: 'it returns false'. Refute it at one input. -/
def angleEndsWrong : ChangeSpec := { name := "angleEnds", fn := fun _ => fun
  | [d1, d2, d3] => { results := [.lit (.bool false)], args := [d1, d2, d3] }
  | _ => none }
def AngleEndsWrongFalsely : Prop := angleEndsRow.holds Try.pinned (OpenSpec.ofChange angleEndsWrong)

/-- 'glistertop.TopRead': WHATEVER THE INPUT: true; the input reads as it did. -/
def topReadSpec : ChangeSpec := { name := "topRead", fn := fun _ => fun
  | [d1, d2, d3, d4, d5] => { results := [.lit (.bool true)], args := [d1, d2, d3, d4, d5] }
  | _ => none }
def topReadRow : OpenClaim := { program := "ytkloaeaepjoijaa", sum := "69580cc5147bbc0b20e7485ae9fa34c5d18d82da95cb58f34eb3836ac4d57ef9", func := "glister/glistertop.TopRead", spec := "topRead", inPlace := ["internal/bytealg.IndexByteString"], unfollowed := true, recurses := true, plainKeys := false, apart := false }
def TopReadSaid : Prop := topReadRow.holds Try.pinned (OpenSpec.ofChange topReadSpec)

/-- ITS FALSE NEIGHBOUR: 'it returns false'. Refute it at one input. -/
def topReadWrong : ChangeSpec := { name := "topRead", fn := fun _ => fun
  | [d1, d2, d3, d4, d5] => { results := [.lit (.bool false)], args := [d1, d2, d3, d4, d5] }
  | _ => none }
def TopReadWrongFalsely : Prop := topReadRow.holds Try.pinned (OpenSpec.ofChange topReadWrong)

/-- 'glisterlaw07.AngleMore': WHATEVER THE INPUT: true; the input reads as it did. -/
def angleMoreSpec : ChangeSpec := { name := "angleMore", fn := fun _ => fun
  | [d1, d2, d3] => { results := [.lit (.bool true)], args := [d1, d2, d3] }
  | _ => none }
def angleMoreRow : OpenClaim := { program := "ytkloaeaepjoijaa", sum := "69580cc5147bbc0b20e7485ae9fa34c5d18d82da95cb58f34eb3836ac4d57ef9", func := "glister/glisterlaw07.AngleMore", spec := "angleMore", unfollowed := true, recurses := true, plainKeys := false, apart := false }
def AngleMoreSaid : Prop := angleMoreRow.holds Try.pinned (OpenSpec.ofChange angleMoreSpec)

/-- ITS FALSE NEIGHBOUR: 'it returns false'. Refute it at one input. -/
def angleMoreWrong : ChangeSpec := { name := "angleMore", fn := fun _ => fun
  | [d1, d2, d3] => { results := [.lit (.bool false)], args := [d1, d2, d3] }
  | _ => none }
def AngleMoreWrongFalsely : Prop := angleMoreRow.holds Try.pinned (OpenSpec.ofChange angleMoreWrong)

/-- 'glisterlaw07.AngleLeft': WHATEVER THE INPUT: true; the input reads as it did. -/
def angleLeftSpec : ChangeSpec := { name := "angleLeft", fn := fun _ => fun
  | [d1, d2, d3] => { results := [.lit (.bool true)], args := [d1, d2, d3] }
  | _ => none }
def angleLeftRow : OpenClaim := { program := "ytkloaeaepjoijaa", sum := "69580cc5147bbc0b20e7485ae9fa34c5d18d82da95cb58f34eb3836ac4d57ef9", func := "glister/glisterlaw07.AngleLeft", spec := "angleLeft", unfollowed := true, recurses := true, plainKeys := false, apart := false }
def AngleLeftSaid : Prop := angleLeftRow.holds Try.pinned (OpenSpec.ofChange angleLeftSpec)

/-- ITS FALSE NEIGHBOUR: 'it returns false'. Refute it at one input. -/
def angleLeftWrong : ChangeSpec := { name := "angleLeft", fn := fun _ => fun
  | [d1, d2, d3] => { results := [.lit (.bool false)], args := [d1, d2, d3] }
  | _ => none }
def AngleLeftWrongFalsely : Prop := angleLeftRow.holds Try.pinned (OpenSpec.ofChange angleLeftWrong)

/-- 'glisterlaw07.AngleHeavier': WHATEVER THE INPUT: true; the input reads as it did. -/
def angleHeavierSpec : ChangeSpec := { name := "angleHeavier", fn := fun _ => fun
  | [d1, d2] => { results := [.lit (.bool true)], args := [d1, d2] }
  | _ => none }
def angleHeavierRow : OpenClaim := { program := "ytkloaeaepjoijaa", sum := "69580cc5147bbc0b20e7485ae9fa34c5d18d82da95cb58f34eb3836ac4d57ef9", func := "glister/glisterlaw07.AngleHeavier", spec := "angleHeavier", unfollowed := true, recurses := true, plainKeys := false, apart := false }
def AngleHeavierSaid : Prop := angleHeavierRow.holds Try.pinned (OpenSpec.ofChange angleHeavierSpec)

/-- ITS FALSE NEIGHBOUR: 'it returns false'. Refute it at one input. -/
def angleHeavierWrong : ChangeSpec := { name := "angleHeavier", fn := fun _ => fun
  | [d1, d2] => { results := [.lit (.bool false)], args := [d1, d2] }
  | _ => none }
def AngleHeavierWrongFalsely : Prop := angleHeavierRow.holds Try.pinned (OpenSpec.ofChange angleHeavierWrong)

/-- 'glisterlaw07.AngleOrder': WHATEVER THE INPUT: true; the input reads as it did. -/
def angleOrderSpec : ChangeSpec := { name := "angleOrder", fn := fun _ => fun
  | [d1, d2, d3] => { results := [.lit (.bool true)], args := [d1, d2, d3] }
  | _ => none }
def angleOrderRow : OpenClaim := { program := "ytkloaeaepjoijaa", sum := "69580cc5147bbc0b20e7485ae9fa34c5d18d82da95cb58f34eb3836ac4d57ef9", func := "glister/glisterlaw07.AngleOrder", spec := "angleOrder", unfollowed := true, recurses := true, plainKeys := false, apart := false }
def AngleOrderSaid : Prop := angleOrderRow.holds Try.pinned (OpenSpec.ofChange angleOrderSpec)

/-- ITS FALSE NEIGHBOUR: 'it returns false'. Refute it at one input. -/
def angleOrderWrong : ChangeSpec := { name := "angleOrder", fn := fun _ => fun
  | [d1, d2, d3] => { results := [.lit (.bool false)], args := [d1, d2, d3] }
  | _ => none }
def AngleOrderWrongFalsely : Prop := angleOrderRow.holds Try.pinned (OpenSpec.ofChange angleOrderWrong)

/-- 'glisterlaw07.AngleAlone': WHATEVER THE INPUT: true; the input reads as it did. -/
def angleAloneSpec : ChangeSpec := { name := "angleAlone", fn := fun _ => fun
  | [d1, d2, d3, d4] => { results := [.lit (.bool true)], args := [d1, d2, d3, d4] }
  | _ => none }
def angleAloneRow : OpenClaim := { program := "ytkloaeaepjoijaa", sum := "69580cc5147bbc0b20e7485ae9fa34c5d18d82da95cb58f34eb3836ac4d57ef9", func := "glister/glisterlaw07.AngleAlone", spec := "angleAlone", unfollowed := true, recurses := true, plainKeys := false, apart := false }
def AngleAloneSaid : Prop := angleAloneRow.holds Try.pinned (OpenSpec.ofChange angleAloneSpec)

/-- ITS FALSE NEIGHBOUR: 'it returns false'. Refute it at one input. -/
def angleAloneWrong : ChangeSpec := { name := "angleAlone", fn := fun _ => fun
  | [d1, d2, d3, d4] => { results := [.lit (.bool false)], args := [d1, d2, d3, d4] }
  | _ => none }
def AngleAloneWrongFalsely : Prop := angleAloneRow.holds Try.pinned (OpenSpec.ofChange angleAloneWrong)

/-- 'glisterlaw07.AngleCuts': WHATEVER THE INPUT: true; the input reads as it did. -/
def angleCutsSpec : ChangeSpec := { name := "angleCuts", fn := fun _ => fun
  | [d1, d2] => { results := [.lit (.bool true)], args := [d1, d2] }
  | _ => none }
def angleCutsRow : OpenClaim := { program := "ytkloaeaepjoijaa", sum := "69580cc5147bbc0b20e7485ae9fa34c5d18d82da95cb58f34eb3836ac4d57ef9", func := "glister/glisterlaw07.AngleCuts", spec := "angleCuts", unfollowed := true, recurses := true, plainKeys := false, apart := false }
def AngleCutsSaid : Prop := angleCutsRow.holds Try.pinned (OpenSpec.ofChange angleCutsSpec)

/-- ITS FALSE NEIGHBOUR: 'it returns false'. Refute it at one input. -/
def angleCutsWrong : ChangeSpec := { name := "angleCuts", fn := fun _ => fun
  | [d1, d2] => { results := [.lit (.bool false)], args := [d1, d2] }
  | _ => none }
def AngleCutsWrongFalsely : Prop := angleCutsRow.holds Try.pinned (OpenSpec.ofChange angleCutsWrong)

/-- 'glisterlaw07.AngleNames': WHATEVER THE INPUT: true; the input reads as it did. -/
def angleNamesSpec : ChangeSpec := { name := "angleNames", fn := fun _ => fun
  | [] => { results := [.lit (.bool true)], args := [] }
  | _ => none }
def angleNamesRow : OpenClaim := { program := "ytkloaeaepjoijaa", sum := "69580cc5147bbc0b20e7485ae9fa34c5d18d82da95cb58f34eb3836ac4d57ef9", func := "glister/glisterlaw07.AngleNames", spec := "angleNames", unfollowed := true, recurses := true, plainKeys := false, apart := false }
def AngleNamesSaid : Prop := angleNamesRow.holds Try.pinned (OpenSpec.ofChange angleNamesSpec)

/-- ITS FALSE NEIGHBOUR: 'it returns false'. Refute it at one input. -/
def angleNamesWrong : ChangeSpec := { name := "angleNames", fn := fun _ => fun
  | [] => { results := [.lit (.bool false)], args := [] }
  | _ => none }
def AngleNamesWrongFalsely : Prop := angleNamesRow.holds Try.pinned (OpenSpec.ofChange angleNamesWrong)

/-- 'glisterlaw07.AngleProved': WHATEVER THE INPUT: true; the input reads as it did. -/
def angleProvedSpec : ChangeSpec := { name := "angleProved", fn := fun _ => fun
  | [d1, d2, d3, d4] => { results := [.lit (.bool true)], args := [d1, d2, d3, d4] }
  | _ => none }
def angleProvedRow : OpenClaim := { program := "ytkloaeaepjoijaa", sum := "69580cc5147bbc0b20e7485ae9fa34c5d18d82da95cb58f34eb3836ac4d57ef9", func := "glister/glisterlaw07.AngleProved", spec := "angleProved", unfollowed := true, recurses := true, plainKeys := false, apart := false }
def AngleProvedSaid : Prop := angleProvedRow.holds Try.pinned (OpenSpec.ofChange angleProvedSpec)

/-- ITS FALSE NEIGHBOUR: 'it returns false'. Refute it at one input. -/
def angleProvedWrong : ChangeSpec := { name := "angleProved", fn := fun _ => fun
  | [d1, d2, d3, d4] => { results := [.lit (.bool false)], args := [d1, d2, d3, d4] }
  | _ => none }
def AngleProvedWrongFalsely : Prop := angleProvedRow.holds Try.pinned (OpenSpec.ofChange angleProvedWrong)

/- THE SECOND FORM. 'bulk': how many values and letters a reading holds, each counted each time it is reached (what is shared counts as often as it is met; a slice's spare places count too). A statement '..UptoSaid' is the law's where the arguments, and the package variables that the reading takes, are together of bulk at most 1048576: NARROWER than '..Said'. Prove '..Said' where nothing that the law and all that it calls make is longer than what came in: it says more and counts as full. Else prove '..UptoSaid'. A law counts once. -/
mutual
def uptoBulk {H : Type} : DataW H → Nat
  | .lit (.string bytes) => bytes.length + 1
  | .lit _ => 1
  | .nil => 1
  | .ptr d => uptoBulk d + 1
  | .slice elems spare => uptoBulkAll elems + uptoBulkAll spare + 1
  | .agg parts => uptoBulkAll parts + 1
  | .iface _ d => uptoBulk d + 1
  | .map entries => uptoBulkEntries entries + 1
  | .held _ => 1
def uptoBulkAll {H : Type} : List (DataW H) → Nat
  | [] => 0
  | d :: r => uptoBulk d + uptoBulkAll r
def uptoBulkEntries {H : Type} : List (Lit × DataW H) → Nat
  | [] => 0
  | x :: r => uptoBulkEntry x + uptoBulkEntries r
def uptoBulkEntry {H : Type} : Lit × DataW H → Nat
  | (.string bytes, d) => bytes.length + uptoBulk d + 1
  | (_, d) => uptoBulk d + 1
 end
def uptoSmall : (H : Type) → List (DataW H) → Bool := fun _ ds => decide (uptoBulkAll ds ≤ 1048576)
def OpenSpec.upto (s : _root_.Go.ChangeSpec) : _root_.Go.OpenSpec := { _root_.Go.OpenSpec.ofChange s with cond := some uptoSmall }

/-- 'glisterlaw07.AngleProves', WHERE WHAT IT READS IS OF BULK AT MOST 1048576: true; the input reads as it did. -/
def angleProvesUptoRow : OpenClaim := { program := "ytkloaeaepjoijaa", sum := "69580cc5147bbc0b20e7485ae9fa34c5d18d82da95cb58f34eb3836ac4d57ef9", func := "glister/glisterlaw07.AngleProves", spec := "angleProves", unfollowed := true, recurses := true, plainKeys := false, apart := false, narrowed := true }
def AngleProvesUptoSaid : Prop := angleProvesUptoRow.holds Try.pinned (OpenSpec.upto angleProvesSpec)

/-- 'glisterlaw07.AngleLeasts', WHERE WHAT IT READS IS OF BULK AT MOST 1048576: true; the input reads as it did. -/
def angleLeastsUptoRow : OpenClaim := { program := "ytkloaeaepjoijaa", sum := "69580cc5147bbc0b20e7485ae9fa34c5d18d82da95cb58f34eb3836ac4d57ef9", func := "glister/glisterlaw07.AngleLeasts", spec := "angleLeasts", unfollowed := true, recurses := true, plainKeys := false, apart := false, narrowed := true }
def AngleLeastsUptoSaid : Prop := angleLeastsUptoRow.holds Try.pinned (OpenSpec.upto angleLeastsSpec)

/-- 'glisterlaw07.AngleBounds', WHERE WHAT IT READS IS OF BULK AT MOST 1048576: true; the input reads as it did. -/
def angleBoundsUptoRow : OpenClaim := { program := "ytkloaeaepjoijaa", sum := "69580cc5147bbc0b20e7485ae9fa34c5d18d82da95cb58f34eb3836ac4d57ef9", func := "glister/glisterlaw07.AngleBounds", spec := "angleBounds", unfollowed := true, recurses := true, plainKeys := false, apart := false, narrowed := true }
def AngleBoundsUptoSaid : Prop := angleBoundsUptoRow.holds Try.pinned (OpenSpec.upto angleBoundsSpec)

/-- 'glisterlaw07.AngleControls', WHERE WHAT IT READS IS OF BULK AT MOST 1048576: true; the input reads as it did. -/
def angleControlsUptoRow : OpenClaim := { program := "ytkloaeaepjoijaa", sum := "69580cc5147bbc0b20e7485ae9fa34c5d18d82da95cb58f34eb3836ac4d57ef9", func := "glister/glisterlaw07.AngleControls", spec := "angleControls", unfollowed := true, recurses := true, plainKeys := false, apart := false, narrowed := true }
def AngleControlsUptoSaid : Prop := angleControlsUptoRow.holds Try.pinned (OpenSpec.upto angleControlsSpec)

/-- 'glisterlaw07.AngleLeaves', WHERE WHAT IT READS IS OF BULK AT MOST 1048576: true; the input reads as it did. -/
def angleLeavesUptoRow : OpenClaim := { program := "ytkloaeaepjoijaa", sum := "69580cc5147bbc0b20e7485ae9fa34c5d18d82da95cb58f34eb3836ac4d57ef9", func := "glister/glisterlaw07.AngleLeaves", spec := "angleLeaves", unfollowed := true, recurses := true, plainKeys := false, apart := false, narrowed := true }
def AngleLeavesUptoSaid : Prop := angleLeavesUptoRow.holds Try.pinned (OpenSpec.upto angleLeavesSpec)

/-- 'glisterlaw07.AngleTruth', WHERE WHAT IT READS IS OF BULK AT MOST 1048576: true; the input reads as it did. -/
def angleTruthUptoRow : OpenClaim := { program := "ytkloaeaepjoijaa", sum := "69580cc5147bbc0b20e7485ae9fa34c5d18d82da95cb58f34eb3836ac4d57ef9", func := "glister/glisterlaw07.AngleTruth", spec := "angleTruth", unfollowed := true, recurses := true, plainKeys := false, apart := false, narrowed := true }
def AngleTruthUptoSaid : Prop := angleTruthUptoRow.holds Try.pinned (OpenSpec.upto angleTruthSpec)

/-- 'glisterlaw07.AngleEnds', WHERE WHAT IT READS IS OF BULK AT MOST 1048576: true; the input reads as it did. -/
def angleEndsUptoRow : OpenClaim := { program := "ytkloaeaepjoijaa", sum := "69580cc5147bbc0b20e7485ae9fa34c5d18d82da95cb58f34eb3836ac4d57ef9", func := "glister/glisterlaw07.AngleEnds", spec := "angleEnds", unfollowed := true, recurses := true, plainKeys := false, apart := false, narrowed := true }
def AngleEndsUptoSaid : Prop := angleEndsUptoRow.holds Try.pinned (OpenSpec.upto angleEndsSpec)

/-- 'glistertop.TopRead', WHERE WHAT IT READS IS OF BULK AT MOST 1048576: true; the input reads as it did. -/
def topReadUptoRow : OpenClaim := { program := "ytkloaeaepjoijaa", sum := "69580cc5147bbc0b20e7485ae9fa34c5d18d82da95cb58f34eb3836ac4d57ef9", func := "glister/glistertop.TopRead", spec := "topRead", inPlace := ["internal/bytealg.IndexByteString"], unfollowed := true, recurses := true, plainKeys := false, apart := false, narrowed := true }
def TopReadUptoSaid : Prop := topReadUptoRow.holds Try.pinned (OpenSpec.upto topReadSpec)

/-- 'glisterlaw07.AngleMore', WHERE WHAT IT READS IS OF BULK AT MOST 1048576: true; the input reads as it did. -/
def angleMoreUptoRow : OpenClaim := { program := "ytkloaeaepjoijaa", sum := "69580cc5147bbc0b20e7485ae9fa34c5d18d82da95cb58f34eb3836ac4d57ef9", func := "glister/glisterlaw07.AngleMore", spec := "angleMore", unfollowed := true, recurses := true, plainKeys := false, apart := false, narrowed := true }
def AngleMoreUptoSaid : Prop := angleMoreUptoRow.holds Try.pinned (OpenSpec.upto angleMoreSpec)

/-- 'glisterlaw07.AngleLeft', WHERE WHAT IT READS IS OF BULK AT MOST 1048576: true; the input reads as it did. -/
def angleLeftUptoRow : OpenClaim := { program := "ytkloaeaepjoijaa", sum := "69580cc5147bbc0b20e7485ae9fa34c5d18d82da95cb58f34eb3836ac4d57ef9", func := "glister/glisterlaw07.AngleLeft", spec := "angleLeft", unfollowed := true, recurses := true, plainKeys := false, apart := false, narrowed := true }
def AngleLeftUptoSaid : Prop := angleLeftUptoRow.holds Try.pinned (OpenSpec.upto angleLeftSpec)

/-- 'glisterlaw07.AngleHeavier', WHERE WHAT IT READS IS OF BULK AT MOST 1048576: true; the input reads as it did. -/
def angleHeavierUptoRow : OpenClaim := { program := "ytkloaeaepjoijaa", sum := "69580cc5147bbc0b20e7485ae9fa34c5d18d82da95cb58f34eb3836ac4d57ef9", func := "glister/glisterlaw07.AngleHeavier", spec := "angleHeavier", unfollowed := true, recurses := true, plainKeys := false, apart := false, narrowed := true }
def AngleHeavierUptoSaid : Prop := angleHeavierUptoRow.holds Try.pinned (OpenSpec.upto angleHeavierSpec)

/-- 'glisterlaw07.AngleOrder', WHERE WHAT IT READS IS OF BULK AT MOST 1048576: true; the input reads as it did. -/
def angleOrderUptoRow : OpenClaim := { program := "ytkloaeaepjoijaa", sum := "69580cc5147bbc0b20e7485ae9fa34c5d18d82da95cb58f34eb3836ac4d57ef9", func := "glister/glisterlaw07.AngleOrder", spec := "angleOrder", unfollowed := true, recurses := true, plainKeys := false, apart := false, narrowed := true }
def AngleOrderUptoSaid : Prop := angleOrderUptoRow.holds Try.pinned (OpenSpec.upto angleOrderSpec)

/-- 'glisterlaw07.AngleAlone', WHERE WHAT IT READS IS OF BULK AT MOST 1048576: true; the input reads as it did. -/
def angleAloneUptoRow : OpenClaim := { program := "ytkloaeaepjoijaa", sum := "69580cc5147bbc0b20e7485ae9fa34c5d18d82da95cb58f34eb3836ac4d57ef9", func := "glister/glisterlaw07.AngleAlone", spec := "angleAlone", unfollowed := true, recurses := true, plainKeys := false, apart := false, narrowed := true }
def AngleAloneUptoSaid : Prop := angleAloneUptoRow.holds Try.pinned (OpenSpec.upto angleAloneSpec)

/-- 'glisterlaw07.AngleCuts', WHERE WHAT IT READS IS OF BULK AT MOST 1048576: true; the input reads as it did. -/
def angleCutsUptoRow : OpenClaim := { program := "ytkloaeaepjoijaa", sum := "69580cc5147bbc0b20e7485ae9fa34c5d18d82da95cb58f34eb3836ac4d57ef9", func := "glister/glisterlaw07.AngleCuts", spec := "angleCuts", unfollowed := true, recurses := true, plainKeys := false, apart := false, narrowed := true }
def AngleCutsUptoSaid : Prop := angleCutsUptoRow.holds Try.pinned (OpenSpec.upto angleCutsSpec)

/-- 'glisterlaw07.AngleNames', WHERE WHAT IT READS IS OF BULK AT MOST 1048576: true; the input reads as it did. -/
def angleNamesUptoRow : OpenClaim := { program := "ytkloaeaepjoijaa", sum := "69580cc5147bbc0b20e7485ae9fa34c5d18d82da95cb58f34eb3836ac4d57ef9", func := "glister/glisterlaw07.AngleNames", spec := "angleNames", unfollowed := true, recurses := true, plainKeys := false, apart := false, narrowed := true }
def AngleNamesUptoSaid : Prop := angleNamesUptoRow.holds Try.pinned (OpenSpec.upto angleNamesSpec)

/-- 'glisterlaw07.AngleProved', WHERE WHAT IT READS IS OF BULK AT MOST 1048576: true; the input reads as it did. -/
def angleProvedUptoRow : OpenClaim := { program := "ytkloaeaepjoijaa", sum := "69580cc5147bbc0b20e7485ae9fa34c5d18d82da95cb58f34eb3836ac4d57ef9", func := "glister/glisterlaw07.AngleProved", spec := "angleProved", unfollowed := true, recurses := true, plainKeys := false, apart := false, narrowed := true }
def AngleProvedUptoSaid : Prop := angleProvedUptoRow.holds Try.pinned (OpenSpec.upto angleProvedSpec)

end Rows
end Go.Proofs.Ytkloaeaepjoijaa
