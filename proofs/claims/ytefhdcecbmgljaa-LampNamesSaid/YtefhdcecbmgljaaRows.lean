/-
  No cell of these rows narrows 'for every input' (looked for: loops, veiled, ifaces, maps, wideKeys, modest, calm, conditions, laid).
  DERIVED. THE GIVEN ROWS OF THIS SEAT. 13 by the template 'for every input the law returns true; each argument reads behind the call as it read before'; 0 by the template 'total and deterministic' (their statements: YtefhdcecbmgljaaTotals.lean).
  GIVEN WITH THE SEED: the statements are not yours to turn. If you find one false, say at which input.
  Laid BY PROGRAM, IN A SANDBOX (cutbox-rows.mjs): the forced cells as the released guide's own fill.sh prints them over the translation f73bd27a78bed438… (all of the seat's roots in one cut). By AI agents, Wed Nov 11 2026. No macro, syntax, notation, axiom, sorry.
-/
import Derived.Test.YtefhdcecbmgljaaChecked
import GoSem.Claim
import GoSem.ClaimJoined
import GoSem.ClaimMapViews
import Derived.JoinedTies
import Derived.KernelRfl
namespace Go.Proofs.Ytefhdcecbmgljaa
/- THE CELL 'sum', in the pinned program and in every row, IS THE sha256 OF THE DUMP (.gsa) THAT YtefhdcecbmgljaaProg.lean LOADS. Nothing in Lean hashes anything: it is a label: what it is worth is what the hold of that sum in a sandbox is worth. -/
noncomputable def Try.pinned : Pinned := { name := "ytefhdcecbmgljaa", sum := "f73bd27a78bed438f29a05060e30c7f3c9a1d7560a6841ff8067785afed39e85", checked := Try.checked }
namespace Rows
def none {H : Type} : Left H := { results := [], args := [] }

/-- 'glisterlaw08.LampPlays': WHATEVER THE INPUT: true; the input reads as it did. -/
def lampPlaysSpec : ChangeSpec := { name := "lampPlays", fn := fun _ => fun
  | [d1, d2, d3] => { results := [.lit (.bool true)], args := [d1, d2, d3] }
  | _ => none }
def lampPlaysRow : OpenClaim := { program := "ytefhdcecbmgljaa", sum := "f73bd27a78bed438f29a05060e30c7f3c9a1d7560a6841ff8067785afed39e85", func := "glister/glisterlaw08.LampPlays", spec := "lampPlays", unfollowed := true, recurses := true, plainKeys := false, apart := false }
def LampPlaysSaid : Prop := lampPlaysRow.holds Try.pinned (OpenSpec.ofChange lampPlaysSpec)

/-- ITS FALSE NEIGHBOUR: 'it returns false'. Refute it at one input. -/
def lampPlaysWrong : ChangeSpec := { name := "lampPlays", fn := fun _ => fun
  | [d1, d2, d3] => { results := [.lit (.bool false)], args := [d1, d2, d3] }
  | _ => none }
def LampPlaysWrongFalsely : Prop := lampPlaysRow.holds Try.pinned (OpenSpec.ofChange lampPlaysWrong)

/-- 'glisterlaw08.LampLeaves': WHATEVER THE INPUT: true; the input reads as it did. -/
def lampLeavesSpec : ChangeSpec := { name := "lampLeaves", fn := fun _ => fun
  | [d1, d2, d3] => { results := [.lit (.bool true)], args := [d1, d2, d3] }
  | _ => none }
def lampLeavesRow : OpenClaim := { program := "ytefhdcecbmgljaa", sum := "f73bd27a78bed438f29a05060e30c7f3c9a1d7560a6841ff8067785afed39e85", func := "glister/glisterlaw08.LampLeaves", spec := "lampLeaves", unfollowed := true, recurses := true, plainKeys := false, apart := false }
def LampLeavesSaid : Prop := lampLeavesRow.holds Try.pinned (OpenSpec.ofChange lampLeavesSpec)

/-- ITS FALSE NEIGHBOUR: 'it returns false'. Refute it at one input. -/
def lampLeavesWrong : ChangeSpec := { name := "lampLeaves", fn := fun _ => fun
  | [d1, d2, d3] => { results := [.lit (.bool false)], args := [d1, d2, d3] }
  | _ => none }
def LampLeavesWrongFalsely : Prop := lampLeavesRow.holds Try.pinned (OpenSpec.ofChange lampLeavesWrong)

/-- 'glisterlaw08.LampDelivers': WHATEVER THE INPUT: true; the input reads as it did. -/
def lampDeliversSpec : ChangeSpec := { name := "lampDelivers", fn := fun _ => fun
  | [d1, d2] => { results := [.lit (.bool true)], args := [d1, d2] }
  | _ => none }
def lampDeliversRow : OpenClaim := { program := "ytefhdcecbmgljaa", sum := "f73bd27a78bed438f29a05060e30c7f3c9a1d7560a6841ff8067785afed39e85", func := "glister/glisterlaw08.LampDelivers", spec := "lampDelivers", unfollowed := true, recurses := true, plainKeys := false, apart := false }
def LampDeliversSaid : Prop := lampDeliversRow.holds Try.pinned (OpenSpec.ofChange lampDeliversSpec)

/-- ITS FALSE NEIGHBOUR: 'it returns false'. Refute it at one input. -/
def lampDeliversWrong : ChangeSpec := { name := "lampDelivers", fn := fun _ => fun
  | [d1, d2] => { results := [.lit (.bool false)], args := [d1, d2] }
  | _ => none }
def LampDeliversWrongFalsely : Prop := lampDeliversRow.holds Try.pinned (OpenSpec.ofChange lampDeliversWrong)

/-- 'glisterlaw08.LampTrims': WHATEVER THE INPUT: true; the input reads as it did. -/
def lampTrimsSpec : ChangeSpec := { name := "lampTrims", fn := fun _ => fun
  | [d1, d2] => { results := [.lit (.bool true)], args := [d1, d2] }
  | _ => none }
def lampTrimsRow : OpenClaim := { program := "ytefhdcecbmgljaa", sum := "f73bd27a78bed438f29a05060e30c7f3c9a1d7560a6841ff8067785afed39e85", func := "glister/glisterlaw08.LampTrims", spec := "lampTrims", unfollowed := true, recurses := true, plainKeys := false, apart := false }
def LampTrimsSaid : Prop := lampTrimsRow.holds Try.pinned (OpenSpec.ofChange lampTrimsSpec)

/-- ITS FALSE NEIGHBOUR: 'it returns false'. Refute it at one input. -/
def lampTrimsWrong : ChangeSpec := { name := "lampTrims", fn := fun _ => fun
  | [d1, d2] => { results := [.lit (.bool false)], args := [d1, d2] }
  | _ => none }
def LampTrimsWrongFalsely : Prop := lampTrimsRow.holds Try.pinned (OpenSpec.ofChange lampTrimsWrong)

/-- 'glisterlaw08.LampTruth': WHATEVER THE INPUT: true; the input reads as it did. -/
def lampTruthSpec : ChangeSpec := { name := "lampTruth", fn := fun _ => fun
  | [d1, d2, d3, d4] => { results := [.lit (.bool true)], args := [d1, d2, d3, d4] }
  | _ => none }
def lampTruthRow : OpenClaim := { program := "ytefhdcecbmgljaa", sum := "f73bd27a78bed438f29a05060e30c7f3c9a1d7560a6841ff8067785afed39e85", func := "glister/glisterlaw08.LampTruth", spec := "lampTruth", unfollowed := true, recurses := true, plainKeys := false, apart := false }
def LampTruthSaid : Prop := lampTruthRow.holds Try.pinned (OpenSpec.ofChange lampTruthSpec)

/-- ITS FALSE NEIGHBOUR: 'it returns false'. Refute it at one input. -/
def lampTruthWrong : ChangeSpec := { name := "lampTruth", fn := fun _ => fun
  | [d1, d2, d3, d4] => { results := [.lit (.bool false)], args := [d1, d2, d3, d4] }
  | _ => none }
def LampTruthWrongFalsely : Prop := lampTruthRow.holds Try.pinned (OpenSpec.ofChange lampTruthWrong)

/-- 'glisterlaw08.LampEnds': WHATEVER THE INPUT: true; the input reads as it did. -/
def lampEndsSpec : ChangeSpec := { name := "lampEnds", fn := fun _ => fun
  | [d1, d2, d3, d4, d5] => { results := [.lit (.bool true)], args := [d1, d2, d3, d4, d5] }
  | _ => none }
def lampEndsRow : OpenClaim := { program := "ytefhdcecbmgljaa", sum := "f73bd27a78bed438f29a05060e30c7f3c9a1d7560a6841ff8067785afed39e85", func := "glister/glisterlaw08.LampEnds", spec := "lampEnds", unfollowed := true, recurses := true, plainKeys := false, apart := false }
def LampEndsSaid : Prop := lampEndsRow.holds Try.pinned (OpenSpec.ofChange lampEndsSpec)

/-- ITS FALSE NEIGHBOUR: 'it returns false'. Refute it at one input. -/
def lampEndsWrong : ChangeSpec := { name := "lampEnds", fn := fun _ => fun
  | [d1, d2, d3, d4, d5] => { results := [.lit (.bool false)], args := [d1, d2, d3, d4, d5] }
  | _ => none }
def LampEndsWrongFalsely : Prop := lampEndsRow.holds Try.pinned (OpenSpec.ofChange lampEndsWrong)

/-- 'glisterlaw08.LampDips': WHATEVER THE INPUT: true; the input reads as it did. -/
def lampDipsSpec : ChangeSpec := { name := "lampDips", fn := fun _ => fun
  | [d1, d2, d3, d4, d5, d6] => { results := [.lit (.bool true)], args := [d1, d2, d3, d4, d5, d6] }
  | _ => none }
def lampDipsRow : OpenClaim := { program := "ytefhdcecbmgljaa", sum := "f73bd27a78bed438f29a05060e30c7f3c9a1d7560a6841ff8067785afed39e85", func := "glister/glisterlaw08.LampDips", spec := "lampDips", unfollowed := true, recurses := true, plainKeys := false, apart := false }
def LampDipsSaid : Prop := lampDipsRow.holds Try.pinned (OpenSpec.ofChange lampDipsSpec)

/-- ITS FALSE NEIGHBOUR: 'it returns false'. Refute it at one input. -/
def lampDipsWrong : ChangeSpec := { name := "lampDips", fn := fun _ => fun
  | [d1, d2, d3, d4, d5, d6] => { results := [.lit (.bool false)], args := [d1, d2, d3, d4, d5, d6] }
  | _ => none }
def LampDipsWrongFalsely : Prop := lampDipsRow.holds Try.pinned (OpenSpec.ofChange lampDipsWrong)

/-- 'glisterlaw08.LampLeft': WHATEVER THE INPUT: true; the input reads as it did. -/
def lampLeftSpec : ChangeSpec := { name := "lampLeft", fn := fun _ => fun
  | [d1, d2, d3, d4, d5, d6] => { results := [.lit (.bool true)], args := [d1, d2, d3, d4, d5, d6] }
  | _ => none }
def lampLeftRow : OpenClaim := { program := "ytefhdcecbmgljaa", sum := "f73bd27a78bed438f29a05060e30c7f3c9a1d7560a6841ff8067785afed39e85", func := "glister/glisterlaw08.LampLeft", spec := "lampLeft", unfollowed := true, recurses := true, plainKeys := false, apart := false }
def LampLeftSaid : Prop := lampLeftRow.holds Try.pinned (OpenSpec.ofChange lampLeftSpec)

/-- ITS FALSE NEIGHBOUR: 'it returns false'. Refute it at one input. -/
def lampLeftWrong : ChangeSpec := { name := "lampLeft", fn := fun _ => fun
  | [d1, d2, d3, d4, d5, d6] => { results := [.lit (.bool false)], args := [d1, d2, d3, d4, d5, d6] }
  | _ => none }
def LampLeftWrongFalsely : Prop := lampLeftRow.holds Try.pinned (OpenSpec.ofChange lampLeftWrong)

/-- 'glisterlaw08.LampMore': WHATEVER THE INPUT: true; the input reads as it did. -/
def lampMoreSpec : ChangeSpec := { name := "lampMore", fn := fun _ => fun
  | [d1, d2, d3, d4, d5] => { results := [.lit (.bool true)], args := [d1, d2, d3, d4, d5] }
  | _ => none }
def lampMoreRow : OpenClaim := { program := "ytefhdcecbmgljaa", sum := "f73bd27a78bed438f29a05060e30c7f3c9a1d7560a6841ff8067785afed39e85", func := "glister/glisterlaw08.LampMore", spec := "lampMore", unfollowed := true, recurses := true, plainKeys := false, apart := false }
def LampMoreSaid : Prop := lampMoreRow.holds Try.pinned (OpenSpec.ofChange lampMoreSpec)

/-- ITS FALSE NEIGHBOUR: 'it returns false'. Refute it at one input. -/
def lampMoreWrong : ChangeSpec := { name := "lampMore", fn := fun _ => fun
  | [d1, d2, d3, d4, d5] => { results := [.lit (.bool false)], args := [d1, d2, d3, d4, d5] }
  | _ => none }
def LampMoreWrongFalsely : Prop := lampMoreRow.holds Try.pinned (OpenSpec.ofChange lampMoreWrong)

/-- 'glisterlaw08.LampOils': WHATEVER THE INPUT: true; the input reads as it did. -/
def lampOilsSpec : ChangeSpec := { name := "lampOils", fn := fun _ => fun
  | [d1, d2, d3] => { results := [.lit (.bool true)], args := [d1, d2, d3] }
  | _ => none }
def lampOilsRow : OpenClaim := { program := "ytefhdcecbmgljaa", sum := "f73bd27a78bed438f29a05060e30c7f3c9a1d7560a6841ff8067785afed39e85", func := "glister/glisterlaw08.LampOils", spec := "lampOils", unfollowed := true, recurses := true, plainKeys := false, apart := false }
def LampOilsSaid : Prop := lampOilsRow.holds Try.pinned (OpenSpec.ofChange lampOilsSpec)

/-- ITS FALSE NEIGHBOUR: 'it returns false'. Refute it at one input. -/
def lampOilsWrong : ChangeSpec := { name := "lampOils", fn := fun _ => fun
  | [d1, d2, d3] => { results := [.lit (.bool false)], args := [d1, d2, d3] }
  | _ => none }
def LampOilsWrongFalsely : Prop := lampOilsRow.holds Try.pinned (OpenSpec.ofChange lampOilsWrong)

/-- 'glisterlaw08.LampNames': WHATEVER THE INPUT: true; the input reads as it did. -/
def lampNamesSpec : ChangeSpec := { name := "lampNames", fn := fun _ => fun
  | [] => { results := [.lit (.bool true)], args := [] }
  | _ => none }
def lampNamesRow : OpenClaim := { program := "ytefhdcecbmgljaa", sum := "f73bd27a78bed438f29a05060e30c7f3c9a1d7560a6841ff8067785afed39e85", func := "glister/glisterlaw08.LampNames", spec := "lampNames", unfollowed := true, recurses := true, plainKeys := false, apart := false }
def LampNamesSaid : Prop := lampNamesRow.holds Try.pinned (OpenSpec.ofChange lampNamesSpec)

/-- ITS FALSE NEIGHBOUR: 'it returns false'. Refute it at one input. -/
def lampNamesWrong : ChangeSpec := { name := "lampNames", fn := fun _ => fun
  | [] => { results := [.lit (.bool false)], args := [] }
  | _ => none }
def LampNamesWrongFalsely : Prop := lampNamesRow.holds Try.pinned (OpenSpec.ofChange lampNamesWrong)

/-- 'glisterlaw08.LampFewest': WHATEVER THE INPUT: true; the input reads as it did. -/
def lampFewestSpec : ChangeSpec := { name := "lampFewest", fn := fun _ => fun
  | [d1, d2] => { results := [.lit (.bool true)], args := [d1, d2] }
  | _ => none }
def lampFewestRow : OpenClaim := { program := "ytefhdcecbmgljaa", sum := "f73bd27a78bed438f29a05060e30c7f3c9a1d7560a6841ff8067785afed39e85", func := "glister/glisterlaw08.LampFewest", spec := "lampFewest", unfollowed := true, recurses := true, plainKeys := false, apart := false }
def LampFewestSaid : Prop := lampFewestRow.holds Try.pinned (OpenSpec.ofChange lampFewestSpec)

/-- ITS FALSE NEIGHBOUR: 'it returns false'. Refute it at one input. -/
def lampFewestWrong : ChangeSpec := { name := "lampFewest", fn := fun _ => fun
  | [d1, d2] => { results := [.lit (.bool false)], args := [d1, d2] }
  | _ => none }
def LampFewestWrongFalsely : Prop := lampFewestRow.holds Try.pinned (OpenSpec.ofChange lampFewestWrong)

/-- 'glisterlaw08.LampLight': WHATEVER THE INPUT: true; the input reads as it did. -/
def lampLightSpec : ChangeSpec := { name := "lampLight", fn := fun _ => fun
  | [d1, d2, d3] => { results := [.lit (.bool true)], args := [d1, d2, d3] }
  | _ => none }
def lampLightRow : OpenClaim := { program := "ytefhdcecbmgljaa", sum := "f73bd27a78bed438f29a05060e30c7f3c9a1d7560a6841ff8067785afed39e85", func := "glister/glisterlaw08.LampLight", spec := "lampLight", unfollowed := true, recurses := true, plainKeys := false, apart := false }
def LampLightSaid : Prop := lampLightRow.holds Try.pinned (OpenSpec.ofChange lampLightSpec)

/-- ITS FALSE NEIGHBOUR: 'it returns false'. Refute it at one input. -/
def lampLightWrong : ChangeSpec := { name := "lampLight", fn := fun _ => fun
  | [d1, d2, d3] => { results := [.lit (.bool false)], args := [d1, d2, d3] }
  | _ => none }
def LampLightWrongFalsely : Prop := lampLightRow.holds Try.pinned (OpenSpec.ofChange lampLightWrong)

/- THE SECOND FORM. 'bulk': how many values and letters a reading holds, each counted each time it is reached (what is shared counts as often as it is met; a slice's spare places count too). A statement '..UptoSaid' is the law's where the arguments, and the package variables that the reading takes, are together of bulk at most 1048576: NARROWER than '..Said'. Prove '..Said' where nothing that the law and all that it calls make is longer than what came in: it says more and counts as full. Else prove '..UptoSaid'. A law counts once. -/
mutual
def uptoBulk {H : Type} : DataW H → Nat
  | .lit (.string bytes) => bytes.length + 1
  | .lit _ => 1
  | .nil => 1
  | .ptr d => uptoBulk d + 1
  | .slice elems spare => uptoBulkAll elems + uptoBulkAll spare + 1
  | .agg parts => uptoBulkAll parts + 1
  | .iface _ d => uptoBulk d + 1
  | .map entries => uptoBulkEntries entries + 1
  | .held _ => 1
def uptoBulkAll {H : Type} : List (DataW H) → Nat
  | [] => 0
  | d :: r => uptoBulk d + uptoBulkAll r
def uptoBulkEntries {H : Type} : List (Lit × DataW H) → Nat
  | [] => 0
  | x :: r => uptoBulkEntry x + uptoBulkEntries r
def uptoBulkEntry {H : Type} : Lit × DataW H → Nat
  | (.string bytes, d) => bytes.length + uptoBulk d + 1
  | (_, d) => uptoBulk d + 1
 end
def uptoSmall : (H : Type) → List (DataW H) → Bool := fun _ ds => decide (uptoBulkAll ds ≤ 1048576)
def OpenSpec.upto (s : _root_.Go.ChangeSpec) : _root_.Go.OpenSpec := { _root_.Go.OpenSpec.ofChange s with cond := some uptoSmall }

/-- 'glisterlaw08.LampPlays', WHERE WHAT IT READS IS OF BULK AT MOST 1048576: true; the input reads as it did. -/
def lampPlaysUptoRow : OpenClaim := { program := "ytefhdcecbmgljaa", sum := "f73bd27a78bed438f29a05060e30c7f3c9a1d7560a6841ff8067785afed39e85", func := "glister/glisterlaw08.LampPlays", spec := "lampPlays", unfollowed := true, recurses := true, plainKeys := false, apart := false, narrowed := true }
def LampPlaysUptoSaid : Prop := lampPlaysUptoRow.holds Try.pinned (OpenSpec.upto lampPlaysSpec)

/-- 'glisterlaw08.LampLeaves', WHERE WHAT IT READS IS OF BULK AT MOST 1048576: true; the input reads as it did. -/
def lampLeavesUptoRow : OpenClaim := { program := "ytefhdcecbmgljaa", sum := "f73bd27a78bed438f29a05060e30c7f3c9a1d7560a6841ff8067785afed39e85", func := "glister/glisterlaw08.LampLeaves", spec := "lampLeaves", unfollowed := true, recurses := true, plainKeys := false, apart := false, narrowed := true }
def LampLeavesUptoSaid : Prop := lampLeavesUptoRow.holds Try.pinned (OpenSpec.upto lampLeavesSpec)

/-- 'glisterlaw08.LampDelivers', WHERE WHAT IT READS IS OF BULK AT MOST 1048576: true; the input reads as it did. -/
def lampDeliversUptoRow : OpenClaim := { program := "ytefhdcecbmgljaa", sum := "f73bd27a78bed438f29a05060e30c7f3c9a1d7560a6841ff8067785afed39e85", func := "glister/glisterlaw08.LampDelivers", spec := "lampDelivers", unfollowed := true, recurses := true, plainKeys := false, apart := false, narrowed := true }
def LampDeliversUptoSaid : Prop := lampDeliversUptoRow.holds Try.pinned (OpenSpec.upto lampDeliversSpec)

/-- 'glisterlaw08.LampTrims', WHERE WHAT IT READS IS OF BULK AT MOST 1048576: true; the input reads as it did. -/
def lampTrimsUptoRow : OpenClaim := { program := "ytefhdcecbmgljaa", sum := "f73bd27a78bed438f29a05060e30c7f3c9a1d7560a6841ff8067785afed39e85", func := "glister/glisterlaw08.LampTrims", spec := "lampTrims", unfollowed := true, recurses := true, plainKeys := false, apart := false, narrowed := true }
def LampTrimsUptoSaid : Prop := lampTrimsUptoRow.holds Try.pinned (OpenSpec.upto lampTrimsSpec)

/-- 'glisterlaw08.LampTruth', WHERE WHAT IT READS IS OF BULK AT MOST 1048576: true; the input reads as it did. -/
def lampTruthUptoRow : OpenClaim := { program := "ytefhdcecbmgljaa", sum := "f73bd27a78bed438f29a05060e30c7f3c9a1d7560a6841ff8067785afed39e85", func := "glister/glisterlaw08.LampTruth", spec := "lampTruth", unfollowed := true, recurses := true, plainKeys := false, apart := false, narrowed := true }
def LampTruthUptoSaid : Prop := lampTruthUptoRow.holds Try.pinned (OpenSpec.upto lampTruthSpec)

/-- 'glisterlaw08.LampEnds', WHERE WHAT IT READS IS OF BULK AT MOST 1048576: true; the input reads as it did. -/
def lampEndsUptoRow : OpenClaim := { program := "ytefhdcecbmgljaa", sum := "f73bd27a78bed438f29a05060e30c7f3c9a1d7560a6841ff8067785afed39e85", func := "glister/glisterlaw08.LampEnds", spec := "lampEnds", unfollowed := true, recurses := true, plainKeys := false, apart := false, narrowed := true }
def LampEndsUptoSaid : Prop := lampEndsUptoRow.holds Try.pinned (OpenSpec.upto lampEndsSpec)

/-- 'glisterlaw08.LampDips', WHERE WHAT IT READS IS OF BULK AT MOST 1048576: true; the input reads as it did. -/
def lampDipsUptoRow : OpenClaim := { program := "ytefhdcecbmgljaa", sum := "f73bd27a78bed438f29a05060e30c7f3c9a1d7560a6841ff8067785afed39e85", func := "glister/glisterlaw08.LampDips", spec := "lampDips", unfollowed := true, recurses := true, plainKeys := false, apart := false, narrowed := true }
def LampDipsUptoSaid : Prop := lampDipsUptoRow.holds Try.pinned (OpenSpec.upto lampDipsSpec)

/-- 'glisterlaw08.LampLeft', WHERE WHAT IT READS IS OF BULK AT MOST 1048576: true; the input reads as it did. -/
def lampLeftUptoRow : OpenClaim := { program := "ytefhdcecbmgljaa", sum := "f73bd27a78bed438f29a05060e30c7f3c9a1d7560a6841ff8067785afed39e85", func := "glister/glisterlaw08.LampLeft", spec := "lampLeft", unfollowed := true, recurses := true, plainKeys := false, apart := false, narrowed := true }
def LampLeftUptoSaid : Prop := lampLeftUptoRow.holds Try.pinned (OpenSpec.upto lampLeftSpec)

/-- 'glisterlaw08.LampMore', WHERE WHAT IT READS IS OF BULK AT MOST 1048576: true; the input reads as it did. -/
def lampMoreUptoRow : OpenClaim := { program := "ytefhdcecbmgljaa", sum := "f73bd27a78bed438f29a05060e30c7f3c9a1d7560a6841ff8067785afed39e85", func := "glister/glisterlaw08.LampMore", spec := "lampMore", unfollowed := true, recurses := true, plainKeys := false, apart := false, narrowed := true }
def LampMoreUptoSaid : Prop := lampMoreUptoRow.holds Try.pinned (OpenSpec.upto lampMoreSpec)

/-- 'glisterlaw08.LampOils', WHERE WHAT IT READS IS OF BULK AT MOST 1048576: true; the input reads as it did. -/
def lampOilsUptoRow : OpenClaim := { program := "ytefhdcecbmgljaa", sum := "f73bd27a78bed438f29a05060e30c7f3c9a1d7560a6841ff8067785afed39e85", func := "glister/glisterlaw08.LampOils", spec := "lampOils", unfollowed := true, recurses := true, plainKeys := false, apart := false, narrowed := true }
def LampOilsUptoSaid : Prop := lampOilsUptoRow.holds Try.pinned (OpenSpec.upto lampOilsSpec)

/-- 'glisterlaw08.LampNames', WHERE WHAT IT READS IS OF BULK AT MOST 1048576: true; the input reads as it did. -/
def lampNamesUptoRow : OpenClaim := { program := "ytefhdcecbmgljaa", sum := "f73bd27a78bed438f29a05060e30c7f3c9a1d7560a6841ff8067785afed39e85", func := "glister/glisterlaw08.LampNames", spec := "lampNames", unfollowed := true, recurses := true, plainKeys := false, apart := false, narrowed := true }
def LampNamesUptoSaid : Prop := lampNamesUptoRow.holds Try.pinned (OpenSpec.upto lampNamesSpec)

/-- 'glisterlaw08.LampFewest', WHERE WHAT IT READS IS OF BULK AT MOST 1048576: true; the input reads as it did. -/
def lampFewestUptoRow : OpenClaim := { program := "ytefhdcecbmgljaa", sum := "f73bd27a78bed438f29a05060e30c7f3c9a1d7560a6841ff8067785afed39e85", func := "glister/glisterlaw08.LampFewest", spec := "lampFewest", unfollowed := true, recurses := true, plainKeys := false, apart := false, narrowed := true }
def LampFewestUptoSaid : Prop := lampFewestUptoRow.holds Try.pinned (OpenSpec.upto lampFewestSpec)

/-- 'glisterlaw08.LampLight', WHERE WHAT IT READS IS OF BULK AT MOST 1048576: true; the input reads as it did. -/
def lampLightUptoRow : OpenClaim := { program := "ytefhdcecbmgljaa", sum := "f73bd27a78bed438f29a05060e30c7f3c9a1d7560a6841ff8067785afed39e85", func := "glister/glisterlaw08.LampLight", spec := "lampLight", unfollowed := true, recurses := true, plainKeys := false, apart := false, narrowed := true }
def LampLightUptoSaid : Prop := lampLightUptoRow.holds Try.pinned (OpenSpec.upto lampLightSpec)

end Rows
end Go.Proofs.Ytefhdcecbmgljaa
